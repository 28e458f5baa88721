import Derived.ChangeSame
import Derived.Test.YtedbbdeeofdepaaGreatProg
import Derived.ReadAgain
import Derived.ChangeMaps5
import Derived.SliceStrings
import Derived.ChangeSlices
import Derived.WalkKit
import Derived.ProofKit
import Derived.OpenShut
import Derived.Lib.SmallJoins
import Derived.Test.YtedbbdeeofdepaaGreatN2
import Derived.Test.YtedbbdeeofdepaaGreatN15
section
/-! row: both sets, side by side. -/
namespace Go.Proofs.YtedbbdeeofdepaaGreat
open Go.Sh Go.RowKit
set_option linter.unusedVariables false
set_option linter.unusedSimpArgs false
set_option maxRecDepth 20000
set_option maxHeartbeats 1000000
abbrev reR (s : RwS) (ds : List Od) (bu : List Int) (g1 g2 : Nat) : List A := [rowP 67 1 (some g1) ds.length s.cd (ptrsV (blks ds)), rowP 3 1 (some g2) bu.length s.cb (intsI bu)]
/-- the reference's set, with its drives -/
def reK (s : RwS) (ds : List Od) (bu : List Int) : Kd := fun Y => ∃ (g1 g2 : Nat) (Z : List A), s.pd = some ⟨g1, 0, none⟩ ∧ s.pb = some ⟨g2, 0, none⟩ ∧ rsK ds Z ∧ Y = reR s ds bu g1 g2 ++ Z
section
variable {s : RwS} {ds : List Od} {bu : List Int} {F : List Nat} {w0 w : World} {X : List A}
theorem re_open (H : Ow (reK s ds bu) F w0 w X) : ∃ g1 g2 : Nat, s.pd = some ⟨g1, 0, none⟩ ∧ s.pb = some ⟨g2, 0, none⟩ ∧ Ow (rsK ds) F w0 w (X ++ reR s ds bu g1 g2) := by
  obtain ⟨Y, ⟨g1, g2, Z, h1, h2, h3, rfl⟩, hT⟩ := H
  exact ⟨g1, g2, h1, h2, Z, h3, by rw [List.append_assoc]; exact hT⟩
theorem re_shut {g1 g2 : Nat} (h1 : s.pd = some ⟨g1, 0, none⟩) (h2 : s.pb = some ⟨g2, 0, none⟩) (H : Ow (rsK ds) F w0 w (X ++ reR s ds bu g1 g2)) : Ow (reK s ds bu) F w0 w X := by
  obtain ⟨Z, h3, hT⟩ := H
  exact ⟨_, ⟨g1, g2, Z, h1, h2, h3, rfl⟩, by rw [← List.append_assoc]; exact hT⟩
theorem re_at {g1 g2 : Nat} (h1 : s.pd = some ⟨g1, 0, none⟩) (h2 : s.pb = some ⟨g2, 0, none⟩) {w' : World} (h' : T F w0 w' (X ++ reR s ds bu g1 g2)) : ptrsAt w' s.pd (blks ds) ∧ intsL w' s.pb bu := by
  refine ⟨?_, ?_⟩
  · rw [h1]; exact (T.ptrs h' (g := some g1) (t := 67) (n := ds.length) (cap := s.cd) (ps := blks ds) (List.mem_append_right _ (by repeat (first | exact List.Mem.head _ | refine List.Mem.tail _ ?_)))).1
  · rw [h2]; exact (T.ints h' (g := some g2) (n := bu.length) (cap := s.cb) (l := bu) (List.mem_append_right _ (by repeat (first | exact List.Mem.head _ | refine List.Mem.tail _ ?_)))).1
theorem re_w (H : Ow (reK s ds bu) F w0 w X) : RrW s ds bu w := by
  obtain ⟨g1, g2, h1, h2, H⟩ := re_open H
  exact ⟨⟨F, w0, _, H⟩, (re_at h1 h2 H.under).1, (re_at h1 h2 H.under).2⟩
theorem re_set {ds' : List Od} {g1 g2 : Nat} (hb : blks ds' = blks ds) : reR s ds' bu g1 g2 = reR s ds bu g1 g2 := by
  have hl : ds'.length = ds.length := by have := congrArg List.length hb; rwa [blks_len, blks_len] at this
  unfold reR
  rw [hb, hl]
theorem re_on {P : Program} {f : FuncId} {args : Array Value} {v : Value} {p i : Nat} {a b : AD} (H : Ow (reK s ds bu) F w0 w X) (hk : ds[i]? = some (some (p, a))) (hc : ∀ Z, Rf p a F w0 w (X ++ Z) → Calls P f args w fun e w' => e = .returned v ∧ Rf p b F w0 w' (X ++ Z)) : Calls P f args w fun e w' => e = .returned v ∧ Ow (reK s (ds.set i (some (p, b))) bu) F w0 w' X := by
  obtain ⟨g1, g2, h1, h2, H⟩ := re_open H
  refine (Ow.onRef (b := b) H hk fun Z hZ => ?_).mono fun e w' ⟨he, h'⟩ => ⟨he, re_shut h1 h2 (by rw [re_set (blks_set hk)]; exact h')⟩
  rw [List.append_assoc] at hZ ⊢
  exact hc _ hZ
theorem re_gone {p i : Nat} {a : AD} {K : World → Prop} (H : Ow (reK s ds bu) F w0 w X) (hk : ds[i]? = some (some (p, a))) (hK : ∀ w', Ow (reK s (ds.set i (some (p, a.die))) bu) F w0 w' X → K w') : St (Addr.add ⟨p, 0, none⟩ 3) (.bool true) w K := by
  obtain ⟨g1, g2, h1, h2, H⟩ := re_open H
  obtain ⟨Z, hd, hb⟩ := Ow.rdrive H hk
  exact rgone hd fun w' h' => hK w' (re_shut h1 h2 (by rw [re_set (blks_set hk)]; exact hb h'))
theorem Ow.rforget (H : Ow (rsK ds) F w0 w X) (k : Nat) : Ow (rsK (ds.set k none)) F w0 w X := by
  by_cases hk : k < ds.length
  · have he : ds[k]? = some ds[k] := List.getElem?_eq_getElem hk
    obtain ⟨Z, h1, h2⟩ := Ow.at he H
    exact h2 (x' := none) (Ow.of_T h1.under)
  · rw [List.set_eq_of_length_le (by omega)]; exact H
theorem re_none {i : Nat} {K : World → Prop} {ad : Addr} (H : Ow (reK s ds bu) F w0 w X) (hp : s.pd = some ad) (hi : i < ds.length) (hK : ∀ w', Ow (reK s (ds.set i none) bu) F w0 w' X → K w') : St (ad.add (i * 1)) (.pointer none) w K := by
  obtain ⟨g1, g2, h1, h2, H⟩ := re_open H
  rw [h1] at hp
  cases hp
  have H : Ow (rsK ds) F w0 w (rowP 67 1 (some g1) ds.length s.cd (ptrsV (blks ds)) :: (X ++ [rowP 3 1 (some g2) bu.length s.cb (intsI bu)])) := H.perm List.perm_middle
  refine Ow.stRow (Ow.rforget H i) .head (by rw [ptrsV_len, blks_len]; exact hi) rfl fun w' H' => hK w' ?_
  rw [ptrsV_none] at H'
  refine re_shut h1 h2 ?_
  unfold reR
  rw [List.length_set]
  exact H'.perm List.perm_middle.symm
theorem re_bu {i : Nat} {x : Int} {K : World → Prop} {ad : Addr} (H : Ow (reK s ds bu) F w0 w X) (hp : s.pb = some ad) (hi : i < bu.length) (hK : ∀ w', Ow (reK s ds (bu.set i x)) F w0 w' X → K w') : St (ad.add (i * 1)) (.int .i64 x) w K := by
  obtain ⟨g1, g2, h1, h2, H⟩ := re_open H
  rw [h2] at hp
  cases hp
  have H : Ow (rsK ds) F w0 w (rowP 3 1 (some g2) bu.length s.cb (intsI bu) :: (X ++ [rowP 67 1 (some g1) ds.length s.cd (ptrsV (blks ds))])) := by
    refine H.perm ?_
    refine (List.Perm.append_left _ (.swap _ _ _)).trans ?_
    exact List.perm_middle
  refine Ow.stRow H .head (by rw [intsI_len]; exact hi) rfl fun w' H' => hK w' ?_
  rw [intsI_set] at H'
  refine re_shut h1 h2 ?_
  unfold reR
  rw [List.length_set]
  exact H'.perm (List.perm_middle.symm.trans (List.Perm.append_left _ (.swap _ _ _)))
theorem re_write (H : Ow (reK s ds bu) F w0 w X) (hl : ds.length ≤ 1000000) (hF : FewL ds 999999) (row off role : Int) (x : ByteArray) :
    Calls Tryz.prog 56 #[.agg (rwC s ds.length bu.length), .int .i64 row, .int .i64 off, .int .i64 role, .string x] w fun e w' => e = .returned (.int .i64 (writeE s ds bu row off role x)) ∧ Ow (reK s (writeD s ds bu row off role x) bu) F w0 w' X := by
  have hW := re_w H
  obtain ⟨g1, g2, h1, h2, H⟩ := re_open H
  exact (rwrite16_spec H hW.pd hW.pb hl hF row off role x).mono fun e w' ⟨he, h'⟩ => ⟨he, re_shut h1 h2 (by rw [re_set (writeD_blks ..)]; exact h')⟩
theorem re_flush (H : Ow (reK s ds bu) F w0 w X) (hl : ds.length ≤ 1000000) (hF : FewL ds 1000000) :
    Calls Tryz.prog 60 #[.agg (rwC s ds.length bu.length)] w fun e w' => e = .returned (.int .i64 (if RMay s ds bu then (if ds.any offO then 42 else 0) else 1)) ∧ Ow (reK s (if RMay s ds bu then ds.map flushO else ds) bu) F w0 w' X := by
  obtain ⟨g1, g2, h1, h2, H⟩ := re_open H
  refine (rflush16_spec H (s := s) (bu := bu) (fun w' h' => re_at h1 h2 h') hl hF).mono fun e w' ⟨he, h'⟩ => ⟨he, re_shut h1 h2 ?_⟩
  have e1 : blks (if RMay s ds bu then ds.map flushO else ds) = blks ds := by
    split
    · exact flush_blks ds
    · rfl
  rw [re_set e1]; exact h'
end
/-- both sets stand alike -/
structure Sim (s sr : RwS) (ds rs : List Od) : Prop where
  c : sr.c = s.c
  k : sr.k = s.k
  r : sr.r = s.r
  ads : ads ds = ads rs
theorem ads_mem {l : List Od} {a : AD} : some a ∈ ads l ↔ ∃ p, some (p, a) ∈ l := by
  unfold ads
  rw [List.mem_map]
  constructor
  · rintro ⟨y, hy, h⟩
    cases y with
    | none => cases h
    | some z =>
      have : z.2 = a := by simpa [adO] using h
      exact ⟨z.1, by rw [← this]; exact hy⟩
  · rintro ⟨p, hp⟩
    exact ⟨_, hp, rfl⟩
theorem rmay_ads {s : RwS} {ds : List Od} {bu : List Int} : RMay s ds bu ↔ OkG s.c s.k s.r ∧ ((ads ds).length : Int) = s.c ∧ (bu.length : Int) = s.c ∧ ∀ a, some a ∈ ads ds → needG s.c s.k s.r ≤ (a.safe.length : Int) := by
  have hl : (ads ds).length = ds.length := by simp [ads]
  unfold RMay
  rw [hl]
  refine and_congr_right fun _ => and_congr_right fun _ => and_congr_right fun _ => ⟨fun h a ha => ?_, fun h y hy x hx => ?_⟩
  · obtain ⟨p, hp⟩ := ads_mem.1 ha
    exact h _ hp _ rfl
  · subst hx
    exact h x.2 (ads_mem.2 ⟨x.1, hy⟩)
section
variable {s sr : RwS} {ds rs : List Od} {bu : List Int}
theorem Sim.may (h : Sim s sr ds rs) : RMay sr rs bu ↔ RMay s ds bu := by rw [rmay_ads, rmay_ads, h.c, h.k, h.r, h.ads]
theorem Sim.at (h : Sim s sr ds rs) (row off : Int) : atE sr rs bu row off = atE s ds bu row off := by
  unfold atE
  rw [h.r, h.k]
  by_cases hm : RMay s ds bu
  · rw [if_pos hm, if_pos (h.may.2 hm)]
  · rw [if_neg hm, if_neg fun h' => hm (h.may.1 h')]
theorem Sim.col (h : Sim s sr ds rs) (row role : Int) : colR sr row role = colR s row role := by unfold colR; rw [h.c, h.k, h.r]
theorem adO_get (l : List Od) (i : Nat) : adO (l.getD i none) = (ads l).getD i none := by
  unfold ads
  rw [List.getD_eq_getElem?_getD, List.getD_eq_getElem?_getD, List.getElem?_map]
  cases l[i]? <;> rfl
theorem there_ads (l : List Od) (i : Nat) : adO (thereO l i) = match (ads l).getD i none with
    | some a => if a.dead then none else some a
    | none => none := by
  rw [← adO_get]
  unfold thereO
  cases l.getD i none with
  | none => rfl
  | some x =>
    show adO (if x.2.dead then none else some x) = if x.2.dead then none else some x.2
    cases x.2.dead <;> rfl
theorem Sim.there (h : Sim s sr ds rs) (i : Nat) : adO (thereO rs i) = adO (thereO ds i) := by rw [there_ads, there_ads, h.ads]
theorem Sim.built (h : Sim s sr ds rs) (row role : Int) : adO (builtO sr rs bu row role) = adO (builtO s ds bu row role) := by
  unfold builtO
  rw [h.col]
  split
  · rfl
  · exact h.there _
theorem adO_cases {x y : Od} (h : adO x = adO y) : (x = none ∧ y = none) ∨ ∃ p q a, x = some (p, a) ∧ y = some (q, a) := by
  cases x with
  | none =>
    cases y with
    | none => exact .inl ⟨rfl, rfl⟩
    | some y => cases h
  | some x =>
    cases y with
    | none => cases h
    | some y =>
      have : x.2 = y.2 := by simpa [adO] using h
      exact .inr ⟨x.1, y.1, y.2, by rw [← this], rfl⟩
theorem Sim.sec (h : Sim s sr ds rs) (row off role : Int) : secR sr rs bu row off role = secR s ds bu row off role := by
  unfold secR
  rw [h.c, h.k, h.r]
  rcases adO_cases (h.built (bu := bu) row role) with ⟨h1, h2⟩ | ⟨p, q, a, h1, h2⟩ <;> rw [h1, h2]
theorem Sim.read (h : Sim s sr ds rs) (row off : Int) : readR sr rs bu row off = readR s ds bu row off := by
  unfold readR
  rw [h.at, h.c]
  have : (fun i : Nat => secR sr rs bu row off (i : Int)) = fun i : Nat => secR s ds bu row off (i : Int) := funext fun i => h.sec row off i
  rw [this]
  simp only [h.sec]
theorem Sim.fil (h : Sim s sr ds rs) (row off : Int) : filR sr rs bu row off = filR s ds bu row off := by
  unfold filR
  rw [h.read]
theorem Sim.sect (h : Sim s sr ds rs) (row off i : Int) : sectR sr rs bu row off i = sectR s ds bu row off i := by
  unfold sectR
  rw [h.at, h.c, h.sec, h.fil]
theorem Sim.lost (h : Sim s sr ds rs) (row : Int) : lostR sr rs bu row = lostR s ds bu row := by
  unfold lostR
  rw [h.at, h.c]
  have : (fun i : Nat => (builtO sr rs bu row (i : Int)).isNone) = fun i : Nat => (builtO s ds bu row (i : Int)).isNone := funext fun i => by
    rcases adO_cases (h.built (bu := bu) row i) with ⟨h1, h2⟩ | ⟨p, q, a, h1, h2⟩ <;> rw [h1, h2]
    rfl
  rw [this]
theorem Sim.writeE (h : Sim s sr ds rs) (row off role : Int) (x : ByteArray) : Go.Proofs.YtedbbdeeofdepaaGreat.writeE sr rs bu row off role x = Go.Proofs.YtedbbdeeofdepaaGreat.writeE s ds bu row off role x := by
  unfold Go.Proofs.YtedbbdeeofdepaaGreat.writeE
  rw [h.at, h.c, h.k, h.r, h.col]
  rcases adO_cases (h.there (colR s row role).toNat) with ⟨h1, h2⟩ | ⟨p, q, a, h1, h2⟩ <;> rw [h1, h2]
theorem Sim.writeD (h : Sim s sr ds rs) (row off role : Int) (x : ByteArray) : Sim s sr (Go.Proofs.YtedbbdeeofdepaaGreat.writeD s ds bu row off role x) (Go.Proofs.YtedbbdeeofdepaaGreat.writeD sr rs bu row off role x) := by
  refine ⟨h.c, h.k, h.r, ?_⟩
  unfold Go.Proofs.YtedbbdeeofdepaaGreat.writeD
  rw [h.at, h.c, h.k, h.r, h.col]
  split
  · exact h.ads
  split
  · exact h.ads
  rcases adO_cases (h.there (colR s row role).toNat) with ⟨h1, h2⟩ | ⟨p, q, a, h1, h2⟩
  · rw [h1, h2]; exact h.ads
  · rw [h1, h2]
    exact ads_set h.ads
theorem any_ads (l : List Od) : l.any offO = (ads l).any fun o => match o with
    | some a => a.flush1 == 42
    | none => false := by
  unfold ads
  rw [List.any_map]
  congr 1
  funext y
  cases y <;> rfl
theorem Sim.any (h : Sim s sr ds rs) : rs.any offO = ds.any offO := by rw [any_ads, any_ads, h.ads]
theorem flush_ads (l : List Od) : Go.Proofs.YtedbbdeeofdepaaGreat.ads (l.map flushO) = (Go.Proofs.YtedbbdeeofdepaaGreat.ads l).map fun o => o.map AD.flush := by
  unfold Go.Proofs.YtedbbdeeofdepaaGreat.ads
  rw [List.map_map, List.map_map]
  congr 1
  funext y
  cases y <;> rfl
theorem Sim.flush (h : Sim s sr ds rs) : Sim s sr (ds.map flushO) (rs.map flushO) := ⟨h.c, h.k, h.r, by rw [flush_ads, flush_ads, h.ads]⟩
theorem Sim.set (h : Sim s sr ds rs) {i p q : Nat} {a : AD} : Sim s sr (ds.set i (some (p, a))) (rs.set i (some (q, a))) := ⟨h.c, h.k, h.r, ads_set h.ads⟩
theorem Sim.none (h : Sim s sr ds rs) (i : Nat) : Sim s sr (ds.set i none) (rs.set i none) := ⟨h.c, h.k, h.r, by
  have e : ∀ l : List Od, Go.Proofs.YtedbbdeeofdepaaGreat.ads (l.set i Option.none) = (Go.Proofs.YtedbbdeeofdepaaGreat.ads l).set i Option.none := fun l => by unfold Go.Proofs.YtedbbdeeofdepaaGreat.ads; rw [List.map_set]; rfl
  rw [e, e, h.ads]⟩
end
end Go.Proofs.YtedbbdeeofdepaaGreat
end
section
/-! law16: an act, done with both. -/
namespace Go.Proofs.YtedbbdeeofdepaaGreat
open Go.Sh Go.RowKit
set_option linter.unusedVariables false
set_option linter.unusedSimpArgs false
set_option maxRecDepth 20000
set_option maxHeartbeats 2000000
structure WA where
  k : Int
  row : Int
  off : Int
  role : Int
  c : Int
  s : List UInt8
def waC (x : WA) : Array Value := #[.int .i64 x.k, .int .i64 x.row, .int .i64 x.off, .int .i64 x.role, .int .u8 x.c, .string (strB x.s)]
theorem few_flush {ds : List Od} {M : Nat} (h : FewL ds M) : FewL (ds.map flushO) M := fun q a hm => by
  obtain ⟨x, hx, he⟩ := List.mem_map.1 hm
  cases x with
  | none => cases he
  | some y =>
    have : (y.1, y.2.flush) = (q, a) := Option.some.inj he
    have h2 := congrArg Prod.snd this
    rw [← show y.2.flush = a from h2]
    exact (h y.1 y.2 hx).flush
theorem few_none {ds : List Od} {M : Nat} (h : FewL ds M) (i : Nat) : FewL (ds.set i none) M := fun q a hm => by
  rcases List.mem_or_eq_of_mem_set hm with hm | hm
  · exact h q a hm
  · cases hm
theorem does16_spec {s sr : RwS} {ds rs : List Od} {bu : List Int} {M : Nat} {F : List Nat} {w0 w : World} {X : List A} (H : Ow (star (seK s ds bu) (reK sr rs bu)) F w0 w X) (hS : Sim s sr ds rs) (hc : 0 < ds.length) (hl : ds.length ≤ 1000) (hbl : bu.length = ds.length) (hM : M < 900000) (hF : FewL ds M) (x : WA) (hx : 0 ≤ x.c ∧ x.c ≤ 255) (ho : x.off ≤ 9223372036854775807) (hs : x.s.length ≤ 1000000) :
    Calls Tryz.prog 24 #[.agg (rwC s ds.length bu.length), .agg (rwC sr rs.length bu.length), .agg (waC x)] w fun e w' => e = .returned (.bool true) ∧ ∃ ds' rs' bu', Sim s sr ds' rs' ∧ FewL ds' (M + 1) ∧ ds'.length = ds.length ∧ bu'.length = bu.length ∧ Ow (star (seK s ds' bu') (reK sr rs' bu')) F w0 w' X := by
  refine (revetmentlaw16_does_calls (R := fun v w' => v = .bool true ∧ ∃ ds' rs' bu', Sim s sr ds' rs' ∧ FewL ds' (M + 1) ∧ ds'.length = ds.length ∧ bu'.length = bu.length ∧ Ow (star (seK s ds' bu') (reK sr rs' bu')) F w0 w' X) ?_).mono fun e w' ⟨v, he, hv, h⟩ => ⟨by rw [he, hv], h⟩
  unfold revetmentlaw16_does
  have hrl : rs.length = ds.length := (ads_len hS.ads).symm
  refine H.alloc fun k3 w1 h1 => h1.alloc fun k4 w2 h2 => h2.alloc fun k5 w3 h3 => ?_
  have h3 : Ow (star (seK s ds bu) (reK sr rs bu)) F w0 w3 (blk k5 (waC x) 57 :: blk k4 (rwC sr rs.length bu.length) 33 :: blk k3 (rwC s ds.length bu.length) 30 :: X) := h3
  have c3 : ∀ {h : Kd} {w' : World}, Ow h F w0 w' (blk k5 (waC x) 57 :: blk k4 (rwC sr rs.length bu.length) 33 :: blk k3 (rwC s ds.length bu.length) 30 :: X) → ∀ i v, (rwC s ds.length bu.length)[i]? = some v → w'.cell? ⟨k3, i, none⟩ = some v := fun h' i v hv => h'.ld (by repeat (first | exact List.Mem.head _ | refine List.Mem.tail _ ?_)) hv
  have c4 : ∀ {h : Kd} {w' : World}, Ow h F w0 w' (blk k5 (waC x) 57 :: blk k4 (rwC sr rs.length bu.length) 33 :: blk k3 (rwC s ds.length bu.length) 30 :: X) → ∀ i v, (rwC sr rs.length bu.length)[i]? = some v → w'.cell? ⟨k4, i, none⟩ = some v := fun h' i v hv => h'.ld (by repeat (first | exact List.Mem.head _ | refine List.Mem.tail _ ?_)) hv
  have c5 : ∀ {h : Kd} {w' : World}, Ow h F w0 w' (blk k5 (waC x) 57 :: blk k4 (rwC sr rs.length bu.length) 33 :: blk k3 (rwC s ds.length bu.length) 30 :: X) → ∀ i v, (waC x)[i]? = some v → w'.cell? ⟨k5, i, none⟩ = some v := fun h' i v hv => h'.ld (by repeat (first | exact List.Mem.head _ | refine List.Mem.tail _ ?_)) hv
  have fin : ∀ (ds' rs' : List Od) (bu' : List Int) (w' : World), Sim s sr ds' rs' → FewL ds' (M + 1) → ds'.length = ds.length → bu'.length = bu.length → Ow (star (seK s ds' bu') (reK sr rs' bu')) F w0 w' (blk k5 (waC x) 57 :: blk k4 (rwC sr rs.length bu.length) 33 :: blk k3 (rwC s ds.length bu.length) 30 :: X) → (fun v w' => v = Value.bool true ∧ ∃ ds' rs' bu', Sim s sr ds' rs' ∧ FewL ds' (M + 1) ∧ ds'.length = ds.length ∧ bu'.length = bu.length ∧ Ow (star (seK s ds' bu') (reK sr rs' bu')) F w0 w' X) (.bool true) w' := fun ds' rs' bu' w' e1 e2 e3 e4 h' => ⟨rfl, ds', rs', bu', e1, e2, e3, e4, h'.dropX.dropX.dropX⟩
  generalize blk k5 (waC x) 57 :: blk k4 (rwC sr rs.length bu.length) 33 :: blk k3 (rwC s ds.length bu.length) 30 :: X = Y at h3 c3 c4 c5 fin
  generalize hR : (fun v w' => v = Value.bool true ∧ ∃ ds' rs' bu', Sim s sr ds' rs' ∧ FewL ds' (M + 1) ∧ ds'.length = ds.length ∧ bu'.length = bu.length ∧ Ow (star (seK s ds' bu') (reK sr rs' bu')) F w0 w' X) = R at fin ⊢
  clear hR h1 h2 H
  have hsame : ∀ (ds' rs' : List Od) (bu' : List Int) (w' : World) (m n : Int), m = n → Sim s sr ds' rs' → FewL ds' (M + 1) → ds'.length = ds.length → bu'.length = bu.length → Ow (star (seK s ds' bu') (reK sr rs' bu')) F w0 w' Y → R (.bool (m == n)) w' := fun ds' rs' bu' w' m n e e1 e2 e3 e4 h' => by
    rw [e, beq_self_eq_true]; exact fin ds' rs' bu' w' e1 e2 e3 e4 h'
  have stay : ∀ w', Ow (star (seK s ds bu) (reK sr rs bu)) F w0 w' Y → R (.bool true) w' := fun w' h' => fin ds rs bu w' hS (hF.mono (by omega)) rfl rfl h'
  obtain ⟨col, hcol, hcl⟩ : ∃ col : Nat, Int.tmod (IntKind.i64.wrap x.c) (ds.length : Int) = (col : Int) ∧ col < ds.length := by
    rw [wrap64 x.c (by omega) (by omega), Int.tmod_eq_emod_of_nonneg hx.1]
    have b1 := Int.emod_nonneg x.c (b := (ds.length : Int)) (by omega)
    have b2 := Int.emod_lt_of_pos x.c (b := (ds.length : Int)) (by omega)
    exact ⟨(x.c % (ds.length : Int)).toNat, by omega, by omega⟩
  refine ⟨_, c5 h3 4 _ rfl, _, _, _, c3 h3 3 _ rfl, by omega, _, _, _, c3 h3 3 _ rfl, ?_⟩
  rw [hcol, Int.toNat_natCast]
  have hy : ds[col]? = some ds[col] := List.getElem?_eq_getElem hcl
  have hz : rs[col]? = some (rs[col]'(by omega)) := List.getElem?_eq_getElem (by omega)
  obtain ⟨a20, ha20, cl20⟩ := se_dcell h3.fst hy
  obtain ⟨a25, ha25, cl25⟩ := (re_w h3.flip.fst).pd.get (blks_get hz)
  refine ⟨a20, ha20, by omega, by omega, _, cl20, _, _, _, c4 h3 3 _ rfl, a25, ha25, by omega, by omega, _, cl25, _, c5 h3 0 _ rfl, ?_⟩
  have hyz : adO ds[col] = adO (rs[col]'(by omega)) := by
    have e1 := congrArg (fun l : List (Option AD) => l[col]?) hS.ads
    simp only [ads, List.getElem?_map, hy, hz, Option.map_some] at e1
    exact Option.some.inj e1
  -- writes
  have wr : ∀ (t : ByteArray) (w1 : World), Ow (star (seK s ds bu) (reK sr rs bu)) F w0 w1 Y → ∀ Q : World → Prop, (∀ h w', Ow h F w0 w' Y → Q w') → ∀ K : Ending → World → Prop,
      (∀ w2, Ow (star (seK s (writeD s ds bu x.row x.off x.role t) bu) (reK sr rs bu)) F w0 w2 Y → K (.returned (.int .i64 (writeE s ds bu x.row x.off x.role t))) w2) →
      Calls Tryz.prog 13 #[.agg (rwC s ds.length bu.length), .int .i64 x.row, .int .i64 x.off, .int .i64 x.role, .string t] w1 K := fun t w1 h1 Q hQ K hK =>
    (Ow.onFst h1 fun Z hZ => se_write hZ (by omega) (hF.mono (by omega)) x.row x.off x.role t).mono fun e w2 ⟨he, h2⟩ => by rw [he]; exact hK w2 h2
  have rwr : ∀ (t : ByteArray) (w1 : World), Ow (star (seK s (writeD s ds bu x.row x.off x.role t) bu) (reK sr rs bu)) F w0 w1 Y → ∀ K : Ending → World → Prop,
      (∀ w2, Ow (star (seK s (writeD s ds bu x.row x.off x.role t) bu) (reK sr (writeD sr rs bu x.row x.off x.role t) bu)) F w0 w2 Y → K (.returned (.int .i64 (writeE sr rs bu x.row x.off x.role t))) w2) →
      Calls Tryz.prog 56 #[.agg (rwC sr rs.length bu.length), .int .i64 x.row, .int .i64 x.off, .int .i64 x.role, .string t] w1 K := fun t w1 h1 K hK =>
    (Ow.onSnd h1 fun Z hZ => re_write hZ (by omega) ((hF.ads hS.ads).mono (by omega)) x.row x.off x.role t).mono fun e w2 ⟨he, h2⟩ => by rw [he]; exact hK w2 h2
  have wlen : ∀ t, (writeD s ds bu x.row x.off x.role t).length = ds.length := fun t => by
    have := congrArg List.length (writeD_blks (s := s) (ds := ds) (bu := bu) (row := x.row) (off := x.off) (role := x.role) (x := t))
    rwa [blks_len, blks_len] at this
  have wend : ∀ (t : ByteArray) (w2 : World), Ow (star (seK s (writeD s ds bu x.row x.off x.role t) bu) (reK sr (writeD sr rs bu x.row x.off x.role t) bu)) F w0 w2 Y → R (.bool (writeE s ds bu x.row x.off x.role t == writeE sr rs bu x.row x.off x.role t)) w2 := fun t w2 h2 =>
    hsame _ _ _ w2 _ _ (hS.writeE x.row x.off x.role t).symm (hS.writeD x.row x.off x.role t) (writeD_few hF) (wlen t) rfl h2
  refine ⟨fun h0 => ?_, fun h0 => ⟨fun h0 => ?_, fun h0 => ⟨fun h0 => ?_, fun h0 => ⟨fun h0 => ?_, fun h0 => ⟨fun h0 => ?_, fun h0 => ⟨fun h0 => ?_, fun h0 => ⟨fun h0 => ?_, fun h0 => ⟨fun h0 => ?_, fun h0 => stay w3 h3⟩⟩⟩⟩⟩⟩⟩⟩
  · refine ⟨fun w' => ∃ h, Ow h F w0 w' Y, ⟨_, h3.drew⟩, _, _, _, _, _, _, _, _, _, fun w' ⟨h, h'⟩ => ⟨c3 h' 0 _ rfl, c3 h' 1 _ rfl, c3 h' 2 _ rfl, c3 h' 3 _ rfl, c3 h' 4 _ rfl⟩, _, fun w' ⟨h, h'⟩ => c5 h' 1 _ rfl, _, fun w' ⟨h, h'⟩ => c5 h' 2 _ rfl, _, fun w' ⟨h, h'⟩ => c5 h' 3 _ rfl, _, fun w' ⟨h, h'⟩ => c5 h' 5 _ rfl, ?_⟩
    refine (full16_spec _ (by rw [strB_size]; omega) _).mono fun e w4 ⟨he4, hx4⟩ => ⟨_, he4, ⟨_, h3.drew.quiet hx4⟩, ?_⟩
    refine wr _ w4 (h3.drew.quiet hx4) (fun _ => True) (fun _ _ _ => trivial) _ fun w5 h5 => ⟨_, rfl, ⟨_, h5⟩, ?_⟩
    refine ⟨_, _, _, _, _, _, _, _, _, fun w' ⟨h, h'⟩ => ⟨c4 h' 0 _ rfl, c4 h' 1 _ rfl, c4 h' 2 _ rfl, c4 h' 3 _ rfl, c4 h' 4 _ rfl⟩, _, fun w' ⟨h, h'⟩ => c5 h' 1 _ rfl, _, fun w' ⟨h, h'⟩ => c5 h' 2 _ rfl, _, fun w' ⟨h, h'⟩ => c5 h' 3 _ rfl, _, fun w' ⟨h, h'⟩ => c5 h' 5 _ rfl, ?_⟩
    refine (full16_spec _ (by rw [strB_size]; omega) _).mono fun e w6 ⟨he6, hx6⟩ => ⟨_, he6, ⟨_, h5.quiet hx6⟩, ?_⟩
    exact rwr _ w6 (h5.quiet hx6) _ fun w7 h7 => ⟨_, rfl, ⟨_, h7⟩, wend _ w7 h7⟩
  · refine ⟨fun w' => ∃ h, Ow h F w0 w' Y, ⟨_, h3.drew⟩, _, _, _, _, _, _, _, _, _, fun w' ⟨h, h'⟩ => ⟨c3 h' 0 _ rfl, c3 h' 1 _ rfl, c3 h' 2 _ rfl, c3 h' 3 _ rfl, c3 h' 4 _ rfl⟩, _, fun w' ⟨h, h'⟩ => c5 h' 1 _ rfl, _, fun w' ⟨h, h'⟩ => c5 h' 2 _ rfl, _, fun w' ⟨h, h'⟩ => c5 h' 3 _ rfl, _, fun w' ⟨h, h'⟩ => c5 h' 5 _ rfl, ?_⟩
    refine wr _ _ h3.drew (fun _ => True) (fun _ _ _ => trivial) _ fun w5 h5 => ⟨_, rfl, ⟨_, h5⟩, ?_⟩
    refine ⟨_, _, _, _, _, _, _, _, _, fun w' ⟨h, h'⟩ => ⟨c4 h' 0 _ rfl, c4 h' 1 _ rfl, c4 h' 2 _ rfl, c4 h' 3 _ rfl, c4 h' 4 _ rfl⟩, _, fun w' ⟨h, h'⟩ => c5 h' 1 _ rfl, _, fun w' ⟨h, h'⟩ => c5 h' 2 _ rfl, _, fun w' ⟨h, h'⟩ => c5 h' 3 _ rfl, _, fun w' ⟨h, h'⟩ => c5 h' 5 _ rfl, ?_⟩
    exact rwr _ w5 h5 _ fun w7 h7 => ⟨_, rfl, ⟨_, h7⟩, wend _ w7 h7⟩
  all_goals rcases adO_cases hyz with ⟨e1, e2⟩ | ⟨p, q, a, e1, e2⟩
  all_goals rw [e1] at hy
  all_goals rw [e2] at hz
  all_goals (try rw [e1, e2])
  all_goals (try have hFa : a.Few M := hF p a (List.mem_of_getElem? hy))
  -- spoil
  · exact ⟨fun _ => True, trivial, yes rfl (stay _ h3.drew)⟩
  · refine ⟨fun w' => ∃ h, Ow h F w0 w' Y, ⟨_, h3.drew⟩, no rfl ⟨_, fun w' ⟨h, h'⟩ => c5 h' 1 _ rfl, ?_⟩⟩
    refine (Ow.onFst h3.drew fun Z hZ => se_on hZ hy (b := a.spoil x.row) fun Z' hZ' => spoil_a hZ' x.row).mono fun e w5 ⟨he5, h5⟩ => ⟨_, he5, ⟨_, h5⟩, _, fun w' ⟨h, h'⟩ => c5 h' 1 _ rfl, ?_⟩
    refine (Ow.onSnd h5 fun Z hZ => re_on hZ hz (b := a.spoil x.row) fun Z' hZ' => rspoil_r hZ' x.row).mono fun e w6 ⟨he6, h6⟩ => ⟨_, he6, ⟨_, h6⟩, ?_⟩
    exact hsame _ _ _ w6 _ _ rfl hS.set (((hF.mono (by omega)).set ((hFa.spoil x.row).mono (by omega)))) (List.length_set ..) rfl h6
  -- die
  · exact no rfl (stay _ h3)
  · refine yes rfl ?_
    refine (Ow.onFst h3 fun Z hZ => se_on hZ hy (b := a.die) fun Z' hZ' => die_a hZ').mono fun e w5 ⟨he5, h5⟩ => ⟨he5, _, rfl, ?_⟩
    obtain ⟨Z, hZ, h6, hb⟩ := Ow.lend h5.flip
    refine re_gone h6 hz fun w6 h7 => ?_
    exact fin _ _ _ w6 (hS.set (a := a.die)) ((hF.mono (by omega)).set (hFa.mono (by omega) : a.die.Few (M + 1))) (List.length_set ..) rfl (hb h7).flip
  -- no more
  · refine ⟨_, _, _, c3 h3 3 _ rfl, a20, ha20, by omega, by omega, ?_⟩
    obtain ⟨Z, hZ, h6, hb⟩ := Ow.lend h3
    refine se_none h6 ha20 hcl fun w5 h7 => ?_
    have h5 := hb h7
    refine ⟨_, _, _, c4 h5 3 _ rfl, a25, ha25, by omega, by omega, ?_⟩
    obtain ⟨Z, hZ, h6, hb⟩ := Ow.lend h5.flip
    refine re_none h6 ha25 (by omega) fun w6 h7 => ?_
    exact fin _ _ _ w6 (hS.none col) (few_none (hF.mono (by omega)) col) (List.length_set ..) rfl (hb h7).flip
  · refine ⟨_, _, _, c3 h3 3 _ rfl, a20, ha20, by omega, by omega, ?_⟩
    obtain ⟨Z, hZ, h6, hb⟩ := Ow.lend h3
    refine se_none h6 ha20 hcl fun w5 h7 => ?_
    have h5 := hb h7
    refine ⟨_, _, _, c4 h5 3 _ rfl, a25, ha25, by omega, by omega, ?_⟩
    obtain ⟨Z, hZ, h6, hb⟩ := Ow.lend h5.flip
    refine re_none h6 ha25 (by omega) fun w6 h7 => ?_
    exact fin _ _ _ w6 (hS.none col) (few_none (hF.mono (by omega)) col) (List.length_set ..) rfl (hb h7).flip
  -- built
  · obtain ⟨g1, g2, q1, q2, -⟩ := se_open h3.fst
    obtain ⟨g3, g4, q3, q4, -⟩ := re_open h3.flip.fst
    refine ⟨_, _, _, c3 h3 4 _ rfl, _, c5 h3 1 _ rfl, _, q2, by omega, by omega, ?_⟩
    obtain ⟨Z, hZ, h6, hb⟩ := Ow.lend h3
    refine se_bu h6 q2 (by omega) fun w5 h7 => ?_
    have h5 := hb h7
    refine ⟨_, _, _, c4 h5 4 _ rfl, _, c5 h5 1 _ rfl, _, q4, by omega, by omega, ?_⟩
    obtain ⟨Z, hZ, h6, hb⟩ := Ow.lend h5.flip
    refine re_bu h6 q4 (by omega) fun w6 h7 => ?_
    exact fin _ _ _ w6 hS (hF.mono (by omega)) rfl (List.length_set ..) (hb h7).flip
  · obtain ⟨g1, g2, q1, q2, -⟩ := se_open h3.fst
    obtain ⟨g3, g4, q3, q4, -⟩ := re_open h3.flip.fst
    refine ⟨_, _, _, c3 h3 4 _ rfl, _, c5 h3 1 _ rfl, _, q2, by omega, by omega, ?_⟩
    obtain ⟨Z, hZ, h6, hb⟩ := Ow.lend h3
    refine se_bu h6 q2 (by omega) fun w5 h7 => ?_
    have h5 := hb h7
    refine ⟨_, _, _, c4 h5 4 _ rfl, _, c5 h5 1 _ rfl, _, q4, by omega, by omega, ?_⟩
    obtain ⟨Z, hZ, h6, hb⟩ := Ow.lend h5.flip
    refine re_bu h6 q4 (by omega) fun w6 h7 => ?_
    exact fin _ _ _ w6 hS (hF.mono (by omega)) rfl (List.length_set ..) (hb h7).flip
  -- off
  · exact no rfl (stay _ h3)
  · refine yes rfl ⟨_, c5 h3 2 _ rfl, ?_⟩
    refine (Ow.onFst h3 fun Z hZ => se_on hZ hy (b := a.setOff x.off) fun Z' hZ' => off_a hZ' x.off ho).mono fun e w5 ⟨he5, h5⟩ => ⟨he5, _, c5 h5 2 _ rfl, ?_⟩
    refine (Ow.onSnd h5 fun Z hZ => re_on hZ hz (b := a.setOff x.off) fun Z' hZ' => roff_set hZ' x.off ho).mono fun e w6 ⟨he6, h6⟩ => ⟨he6, ?_⟩
    exact fin _ _ _ w6 (hS.set (a := a.setOff x.off)) ((hF.mono (by omega)).set (hFa.mono (by omega) : (a.setOff x.off).Few (M + 1))) (List.length_set ..) rfl h6
  -- flush
  all_goals
    refine ⟨fun w' => ∃ h, Ow h F w0 w' Y, ⟨_, h3.drew⟩, _, _, _, _, _, _, _, _, _, fun w' ⟨h, h'⟩ => ⟨c3 h' 0 _ rfl, c3 h' 1 _ rfl, c3 h' 2 _ rfl, c3 h' 3 _ rfl, c3 h' 4 _ rfl⟩, ?_⟩
    refine (Ow.onFst h3.drew fun Z hZ => se_flush hZ (by omega) (hF.mono (by omega))).mono fun e w5 ⟨he5, h5⟩ => ⟨_, he5, ⟨_, h5⟩, _, _, _, _, _, _, _, _, _, fun w' ⟨h, h'⟩ => ⟨c4 h' 0 _ rfl, c4 h' 1 _ rfl, c4 h' 2 _ rfl, c4 h' 3 _ rfl, c4 h' 4 _ rfl⟩, ?_⟩
    refine (Ow.onSnd h5 fun Z hZ => re_flush hZ (by omega) ((hF.ads hS.ads).mono (by omega))).mono fun e w6 ⟨he6, h6⟩ => ⟨_, he6, ⟨_, h6⟩, ?_⟩
    by_cases hm : RMay s ds bu
    · rw [if_pos hm, if_pos (hS.may.2 hm)] at h6
      rw [if_pos hm, if_pos (hS.may.2 hm)]
      exact hsame _ _ _ w6 _ _ (by rw [hS.any]) hS.flush (few_flush (hF.mono (by omega))) (List.length_map ..) rfl h6
    · have hm2 : ¬ RMay sr rs bu := fun h => hm (hS.may.1 h)
      rw [if_neg hm, if_neg hm2] at h6
      rw [if_neg hm, if_neg hm2]
      exact hsame _ _ _ w6 _ _ rfl hS (hF.mono (by omega)) rfl rfl h6
end Go.Proofs.YtedbbdeeofdepaaGreat
end
section
/-! law16: RowActs. -/
namespace Go.Proofs.YtedbbdeeofdepaaGreat
open Go.Sh Go.RowKit
set_option linter.unusedVariables false
set_option linter.unusedSimpArgs false
set_option maxRecDepth 20000
set_option maxHeartbeats 2000000
structure WAt (w : World) (a : Addr) (x : WA) : Prop where
  at_ : ∀ j v, (waC x)[j]? = some v → w.cell? (a.add j) = some v
  u8 : 0 ≤ x.c ∧ x.c < 256
  off : x.off ≤ 9223372036854775807
def wactsAt (w : World) (p : Option Addr) (l : List WA) : Prop := (l ≠ [] → ∃ a, p = some a) ∧ ∀ a, p = some a → ∀ j x, l[j]? = some x → WAt w (a.add (j * 6)) x
theorem wactsAt.get {w : World} {p : Option Addr} {l : List WA} (h : wactsAt w p l) {n : Nat} (h1 : n < l.length) : ∃ a, p = some a ∧ ∀ w', Ext w w' → WAt w' (a.add (n * 6)) l[n] := by
  obtain ⟨a, rfl⟩ := h.1 (fun e => by rw [e] at h1; simp at h1)
  have h2 := h.2 a rfl n l[n] (List.getElem?_eq_getElem h1)
  exact ⟨a, rfl, fun w' hx => ⟨fun j v hv => cell_ext hx (h2.at_ j v hv), h2.u8, h2.off⟩⟩
theorem WAt.a0 {w : World} {a : Addr} {x : WA} (h : WAt w a x) : w.cell? a = some (.int .i64 x.k) := by
  have h0 := h.at_ 0 _ rfl
  have hz : a.add 0 = a := by cases a; simp [Addr.add]
  rwa [hz] at h0
theorem heavy16_spec {l : List WA} {p : Option Addr} {c : Nat} {w : World} (H : wactsAt w p l) : Calls Tryz.prog 23 #[.slice p l.length c] w fun e w' => ∃ b, e = .returned (.bool b) ∧ Ext w w' ∧ (b = false → l.length ≤ 80 ∧ ∀ x ∈ l, x.s.length ≤ 100) := by
  refine (revetmentlaw16_heavy_calls (R := fun v w' => ∃ b, v = .bool b ∧ Ext w w' ∧ (b = false → l.length ≤ 80 ∧ ∀ x ∈ l, x.s.length ≤ 100)) ?_).mono fun e w' ⟨v, he, b, hv, h⟩ => ⟨b, by rw [he, hv], h⟩
  unfold revetmentlaw16_heavy
  refine ⟨dec_t fun _ => ⟨true, rfl, .refl w, fun hh => by cases hh⟩, dec_f fun hl => ?_⟩
  refine ⟨fun vs w' => ∃ i : Nat, vs = [.int .i64 (i : Int)] ∧ i ≤ l.length ∧ Ext w w' ∧ ∀ x ∈ l.take i, x.s.length ≤ 100, fun vs _ => match vs with | [.int _ i] => (l.length - i).toNat | _ => 0, ⟨0, rfl, by omega, .refl w, by simp⟩, ?_⟩
  rintro vs w1 ⟨i, rfl, hi, hx1, hok⟩
  refine ⟨_, rfl, dec_t fun hlt => ?_, dec_f fun hge => ?_⟩
  · have hlt : i < l.length := by omega
    obtain ⟨a, ha, hA⟩ := H.get hlt
    refine ⟨a, ha, by omega, by omega, _, by rw [Int.toNat_natCast]; exact (hA w1 hx1).at_ 5 _ rfl, dec_t fun _ => ⟨true, rfl, hx1, fun hh => by cases hh⟩, dec_f fun hs => ?_⟩
    rw [strB_size] at hs
    refine ⟨⟨i + 1, by rw [wrap64 _ (by omega) (by omega)]; rfl, by omega, hx1, fun y hy => ?_⟩, ?_⟩
    · rw [List.take_add_one, List.getElem?_eq_getElem hlt] at hy
      rcases List.mem_append.1 hy with hy | hy
      · exact hok y hy
      · obtain rfl : y = l[i] := by simpa using hy
        omega
    · show ((l.length : Int) - IntKind.i64.wrap ((i : Int) + 1)).toNat < ((l.length : Int) - (i : Int)).toNat
      rw [wrap64 _ (by omega) (by omega)]; omega
  · have hie : i = l.length := by omega
    subst hie
    rw [List.take_length] at hok
    exact ⟨false, rfl, hx1, fun _ => ⟨by omega, hok⟩⟩
/-- what is answered -/
def rdA (r : Except Int (List Txt × List Int)) : List Txt × List Int × Int := match r with
  | .error n => ([], [], n)
  | .ok x => (x.1, x.2, 0)
def loA (r : Except Int (List Int)) : List Int × Int := match r with
  | .error n => ([], n)
  | .ok x => (x, 0)
theorem noInts (w : World) : intsL w none [] := ⟨fun h => absurd rfl h, fun a ha => by cases ha⟩
theorem noStrs (w : World) : strsL w none [] := ⟨fun h => absurd rfl h, fun a ha => by cases ha⟩
theorem T.strsN {F : List Nat} {w0 w : World} {Γ : List A} {g : Option Nat} {n cap : Nat} {L : List Txt} (hT : T F w0 w Γ) (hm : rowP 9 1 g n cap (txts L) ∈ Γ) : strsL w (ptr g) L := by
  have hs := hT.says hm
  have hl := rowP.len hs
  have hlen : L.length = n := by
    have : (txts L).length = L.length := List.length_map ..
    omega
  cases g with
  | none =>
    have : L = [] := by
      cases L with
      | nil => rfl
      | cons x L =>
        obtain ⟨b, hb⟩ := rowP.pos hs (by simp at hlen; omega)
        cases hb
    rw [this]; exact noStrs w
  | some b => exact (T.strs hT hm).1
theorem RdP.view {r : Except Int (List Txt × List Int)} {w w' : World} {v : Value} (h : RdP r w v w') : ∃ p c q d, v = .tuple #[.slice p (rdA r).1.length c, .slice q (rdA r).2.1.length d, .int .i64 (rdA r).2.2] ∧ strsL w' p (rdA r).1 ∧ intsL w' q (rdA r).2.1 ∧ Ext w w' := by
  cases r with
  | error n => exact ⟨none, 0, none, 0, h.1, noStrs _, noInts _, h.2⟩
  | ok x =>
    obtain ⟨g, c, g', c', hv, hT⟩ := h
    exact ⟨_, _, _, _, hv, T.strsN hT (n := x.1.length) (cap := c) (by repeat (first | exact List.Mem.head _ | refine List.Mem.tail _ ?_)), (T.ints hT (n := x.2.length) (cap := c') (by repeat (first | exact List.Mem.head _ | refine List.Mem.tail _ ?_))).1, hT.chg.ext⟩
theorem LoP.view {r : Except Int (List Int)} {w w' : World} {v : Value} (h : LoP r w v w') : ∃ p c, v = .tuple #[.slice p (loA r).1.length c, .int .i64 (loA r).2] ∧ intsL w' p (loA r).1 ∧ Ext w w' := by
  cases r with
  | error n => exact ⟨none, 0, h.1, noInts _, h.2⟩
  | ok x =>
    obtain ⟨g, c, hv, hT⟩ := h
    exact ⟨_, _, hv, (T.ints hT (n := x.length) (cap := c) (by repeat (first | exact List.Mem.head _ | refine List.Mem.tail _ ?_))).1, hT.chg.ext⟩
section
variable {s : RwS} {ds : List Od} {bu : List Int}
theorem read_len (row off : Int) : (rdA (readR s ds bu row off)).1.length ≤ s.c.toNat ∧ (rdA (readR s ds bu row off)).2.1.length ≤ s.c.toNat := by
  cases hR : readR s ds bu row off with
  | error n => exact ⟨Nat.zero_le _, Nat.zero_le _⟩
  | ok x =>
    obtain ⟨X, l⟩ := x
    obtain ⟨hz, h42, hX, hL⟩ := readR_ok hR
    exact ⟨by show X.length ≤ _; rw [hX, colX_len]; exact Nat.le_refl _, by show l.length ≤ _; rw [hL]; exact colL_le _ _⟩
open Classical in
theorem fil_len2 (row off : Int) : (rdA (filR s ds bu row off)).1.length ≤ s.c.toNat ∧ (rdA (filR s ds bu row off)).2.1.length ≤ s.c.toNat := by
  have h0 := read_len (s := s) (ds := ds) (bu := bu) row off
  unfold filR
  cases hR : readR s ds bu row off with
  | error n => exact ⟨Nat.zero_le _, Nat.zero_le _⟩
  | ok x =>
    rw [hR] at h0
    show (rdA (if OkM x.1 x.2 then (if x.2.length ≤ 2 then .ok (fillF x.1 x.2, x.2) else .error 60) else .error 1)).1.length ≤ _ ∧ (rdA (if OkM x.1 x.2 then (if x.2.length ≤ 2 then .ok (fillF x.1 x.2, x.2) else .error 60) else .error 1)).2.1.length ≤ _
    split
    · split
      · exact ⟨by show (fillF x.1 x.2).length ≤ _; rw [fillF_len]; exact h0.1, h0.2⟩
      · exact ⟨Nat.zero_le _, Nat.zero_le _⟩
    · exact ⟨Nat.zero_le _, Nat.zero_le _⟩
theorem lost_len (row : Int) : (loA (lostR s ds bu row)).1.length ≤ s.c.toNat := by
  unfold lostR
  split
  · exact Nat.zero_le _
  · exact misL_le _ _
theorem read_shortW {w : World} (h : RwW s ds bu w) {row off : Int} (L : List Txt) (l : List Int) (hR : readR s ds bu row off = .ok (L, l)) : Short L := fun x hx => by
  obtain ⟨hz, h42, hX, hL⟩ := readR_ok hR
  rw [hX] at hx
  obtain ⟨i, _, rfl⟩ := List.mem_map.1 hx
  have := secR_size h row off i
  have h3 : ((secR s ds bu row off (i : Int)).1.data.toList).length = (secR s ds bu row off (i : Int)).1.size := by rw [Array.length_toList]; rfl
  show ((secR s ds bu row off (i : Int)).1.data.toList).length ≤ _
  omega
end
theorem PairW.se {c k r : Int} {N : Nat} {s sr : RwS} {ds rs : List Od} {X : List A} {w w2 : World} (hP : PairW c k r N s sr ds rs X) (H : Ow (star (dsK ds) (rsK rs)) [] w w2 X) : Ow (star (seK s ds (List.replicate c.toNat r)) (reK sr rs (List.replicate c.toNat r))) [] w w2 [] ∧ Sim s sr ds rs ∧ (∀ M, FewL ds M) ∧ ds.length = c.toNat ∧ rs.length = c.toNat := by
  have hl : ds.length = c.toNat := by have := congrArg List.length hP.ds; simpa [ads] using this
  have hlr : rs.length = c.toNat := by have := congrArg List.length hP.rs; simpa [ads] using this
  refine ⟨?_, ⟨by rw [hP.g.1, hP.gr.1], by rw [hP.g.2.1, hP.gr.2.1], by rw [hP.g.2.2, hP.gr.2.2], by rw [hP.ds, hP.rs]⟩, fun M => (SetHold.new hP.ds).few M, hl, hlr⟩
  obtain ⟨g1, g2, g3, g4, e1, e2, e3, e4, rfl⟩ := hP.at1
  obtain ⟨Y, ⟨Y1, Y2, h1, h2, rfl⟩, hT⟩ := H
  refine ⟨_, ⟨_, _, ⟨g1, g3, Y1, e1, e2, h1, rfl⟩, ⟨g2, g4, Y2, e3, e4, h2, rfl⟩, rfl⟩, hT.swap ?_⟩
  unfold seR reR
  rw [List.length_replicate, hl, hlr]
  refine List.Perm.cons _ ((List.Perm.swap _ _ _).trans (List.Perm.cons _ ?_))
  have := (List.perm_append_comm (l₁ := [rowP 67 1 (some g2) c.toNat sr.cd (ptrsV (blks rs)), rowP 3 1 (some g4) c.toNat sr.cb (intsI (List.replicate c.toNat r))]) (l₂ := Y1)).append_right Y2
  rw [List.append_assoc Y1] at this
  exact this
theorem St6.t {h : Kd} {F : List Nat} {w0 w : World} {X : List A} {k : Nat} {t : TypeId} {x : WA} {K : World → Prop} (H : Ow h F w0 w (blk k #[.int .i64 0, .int .i64 0, .int .i64 0, .int .i64 0, .int .u8 0, .string (ByteArray.mk #[])] t :: X)) (hK : ∀ w', Ow h F w0 w' (blk k (waC x) t :: X) → K w') :
    St ⟨k, 0, none⟩ (.int .i64 x.k) w fun w1 => St ⟨k, 1, none⟩ (.int .i64 x.row) w1 fun w2 => St ⟨k, 2, none⟩ (.int .i64 x.off) w2 fun w3 => St ⟨k, 3, none⟩ (.int .i64 x.role) w3 fun w4 => St ⟨k, 4, none⟩ (.int .u8 x.c) w4 fun w5 => St ⟨k, 5, none⟩ (.string (strB x.s)) w5 K :=
  H.st (c' := #[.int .i64 x.k, .int .i64 0, .int .i64 0, .int .i64 0, .int .u8 0, .string (ByteArray.mk #[])]) .head (show 0 < 6 by decide) rfl rfl fun w1 h1 =>
    h1.st (c' := #[.int .i64 x.k, .int .i64 x.row, .int .i64 0, .int .i64 0, .int .u8 0, .string (ByteArray.mk #[])]) .head (show 1 < 6 by decide) rfl rfl fun w2 h2 =>
      h2.st (c' := #[.int .i64 x.k, .int .i64 x.row, .int .i64 x.off, .int .i64 0, .int .u8 0, .string (ByteArray.mk #[])]) .head (show 2 < 6 by decide) rfl rfl fun w3 h3 =>
        h3.st (c' := #[.int .i64 x.k, .int .i64 x.row, .int .i64 x.off, .int .i64 x.role, .int .u8 0, .string (ByteArray.mk #[])]) .head (show 3 < 6 by decide) rfl rfl fun w4 h4 =>
          h4.st (c' := #[.int .i64 x.k, .int .i64 x.row, .int .i64 x.off, .int .i64 x.role, .int .u8 x.c, .string (ByteArray.mk #[])]) .head (show 4 < 6 by decide) rfl rfl fun w5 h5 =>
            h5.st (c' := waC x) .head (show 5 < 6 by decide) rfl rfl hK
theorem acts16_law {l : List WA} {a b d : Int} {fe : Bool} {p0 : Option Addr} {c0 : Nat} {w : World} (H : wactsAt w p0 l) (ha : 0 ≤ a ∧ a ≤ 255) (hb : 0 ≤ b ∧ b ≤ 255) (hd : 0 ≤ d ∧ d ≤ 255) :
    Ret Tryz.prog 6 #[.int .u8 a, .int .u8 b, .int .u8 d, .bool fe, .slice p0 l.length c0] w (.bool true) := by
  refine ret_of (revetmentlaw16_RowActs_calls ?_)
  unfold revetmentlaw16_RowActs
  refine (heavy16_spec H).mono fun e w1 ⟨bo, he1, hx1, hbo⟩ => ⟨bo, he1, fun _ => shown16_end hx1, fun hf => ?_⟩
  obtain ⟨hl80, hl100⟩ := hbo hf
  clear hbo hf
  refine (shown16_spec w1).mono fun e w2 ⟨he2, hx2⟩ => ⟨_, he2, no rfl ?_⟩
  refine (geo16_spec ha hb hd w2).mono fun e w3 ⟨he3, hx3⟩ => ⟨_, _, _, he3, ?_⟩
  refine (pair16_spec (c := 4 + a % 4) (k := 1 + b % 3) (r := 1 + d % 6) (by omega) (by omega) (by omega) fe w3).mono fun e w4 ⟨s, sr, ds, rs, X, hP, he4, H4⟩ => ⟨_, _, _, _, _, _, _, _, _, _, _, _, _, _, _, _, _, _, he4, ?_⟩
  obtain ⟨H4, hS, hFM, hdl, hrl⟩ := hP.se H4
  have hsc : s.c = 4 + a % 4 := hP.g.1
  have hg1 := hP.g
  have hg2 := hP.gr
  clear hP
  obtain ⟨C, hC⟩ : ∃ C : Nat, 4 + a % 4 = (C : Int) := ⟨(4 + a % 4).toNat, by omega⟩
  have hCt : (4 + a % 4).toNat = C := by omega
  have hCb : 4 ≤ C ∧ C ≤ 7 := by omega
  rw [hC] at hg1 hg2
  rw [hCt] at H4 hdl hrl
  rw [hCt]
  have H4 : Ow (star (seK s ds (List.replicate C (1 + d % 6))) (reK sr rs (List.replicate C (1 + d % 6)))) [] w w4 [] := Ow.over H4 (T.quiet (T.nil w) (hx1.trans (hx2.trans hx3)))
  refine H4.alloc fun k11 w5 H5 => H5.alloc fun k12 w6 H6 => ?_
  refine Ow.st5 H6 (v0 := .int .i64 s.c) (v1 := .int .i64 s.k) (v2 := .int .i64 s.r) (v3 := .slice s.pd C s.cd) (v4 := .slice s.pb C s.cb) (by repeat (first | exact Turn.head | apply Turn.tail)) rfl rfl rfl rfl rfl fun w7 H7 => ?_
  refine Ow.st5 H7 (v0 := .int .i64 sr.c) (v1 := .int .i64 sr.k) (v2 := .int .i64 sr.r) (v3 := .slice sr.pd C sr.cd) (v4 := .slice sr.pb C sr.cb) (by repeat (first | exact Turn.head | apply Turn.tail)) rfl rfl rfl rfl rfl fun w8 H8 => ?_
  have H8 : Ow (star (seK s ds (List.replicate C (1 + d % 6))) (reK sr rs (List.replicate C (1 + d % 6)))) [] w w8 [blk k12 (rwC sr C C) 33, blk k11 (rwC s C C) 30] := H8
  clear H7 H6 H5 H4
  have hsC : s.c.toNat = C := by omega
  have hscr : sr.c.toNat = C := by rw [hS.c, hsC]
  have hbl : (List.replicate C (1 + d % 6)).length = C := List.length_replicate
  generalize List.replicate C (1 + d % 6) = bu at H8 hbl
  have c11 : ∀ {h : Kd} {w' : World} {Q : List A}, Ow h [] w w' (Q ++ [blk k12 (rwC sr C C) 33, blk k11 (rwC s C C) 30]) → ∀ i v, (rwC s C C)[i]? = some v → w'.cell? ⟨k11, i, none⟩ = some v := fun h' i v hv => h'.ld (List.mem_append_right _ (by repeat (first | exact List.Mem.head _ | refine List.Mem.tail _ ?_))) hv
  have c12 : ∀ {h : Kd} {w' : World} {Q : List A}, Ow h [] w w' (Q ++ [blk k12 (rwC sr C C) 33, blk k11 (rwC s C C) 30]) → ∀ i v, (rwC sr C C)[i]? = some v → w'.cell? ⟨k12, i, none⟩ = some v := fun h' i v hv => h'.ld (List.mem_append_right _ (by repeat (first | exact List.Mem.head _ | refine List.Mem.tail _ ?_))) hv
  refine ⟨fun vs w' => ∃ (i : Nat) (ds rs : List Od) (bu : List Int), vs = [.int .i64 (i : Int)] ∧ i ≤ l.length ∧ Sim s sr ds rs ∧ FewL ds i ∧ ds.length = C ∧ rs.length = C ∧ bu.length = C ∧ Ow (star (seK s ds bu) (reK sr rs bu)) [] w w' [blk k12 (rwC sr C C) 33, blk k11 (rwC s C C) 30], fun vs _ => match vs with | [.int _ i] => (l.length - i).toNat | _ => 0, ⟨0, ds, rs, bu, rfl, by omega, hS, hFM 0, hdl, hrl, hbl, H8⟩, ?_⟩
  clear H8 hbl hdl hrl hFM hS
  rintro vs w9 ⟨i, ds, rs, bu, rfl, hi, hS, hF, hdl, hrl, hbl, H9⟩
  refine ⟨_, rfl, dec_t fun hlt => ?_, dec_f fun hge => ?_⟩
  · have hlt : i < l.length := by omega
    obtain ⟨ap, hap, hA⟩ := H.get hlt
    have hA9 := hA w9 H9.ext
    have hx100 := hl100 l[i] (List.getElem_mem hlt)
    generalize l[i] = x at hA9 hx100 hA
    refine ⟨ap, hap, by omega, by omega, ?_⟩
    rw [Int.toNat_natCast]
    refine ⟨x.k, x.row, x.off, x.role, x.c, strB x.s, ⟨hA9.a0, hA9.at_ 1 _ rfl, hA9.at_ 2 _ rfl, hA9.at_ 3 _ rfl, hA9.at_ 4 _ rfl, hA9.at_ 5 _ rfl⟩, ?_⟩
    refine H9.alloc fun k14 w10 H10 => St6.t H10 fun w11 H11 => ?_
    clear H10
    have H11 : Ow (star (seK s ds bu) (reK sr rs bu)) [] w w11 ([blk k14 (waC x) 57] ++ [blk k12 (rwC sr C C) 33, blk k11 (rwC s C C) 30]) := H11
    have c14 : ∀ {h : Kd} {w' : World}, Ow h [] w w' ([blk k14 (waC x) 57] ++ [blk k12 (rwC sr C C) 33, blk k11 (rwC s C C) 30]) → ∀ i v, (waC x)[i]? = some v → w'.cell? ⟨k14, i, none⟩ = some v := fun h' i v hv => h'.ld (by repeat (first | exact List.Mem.head _ | refine List.Mem.tail _ ?_)) hv
    refine ⟨_, _, _, _, _, _, _, _, _, ⟨c11 H11 0 _ rfl, c11 H11 1 _ rfl, c11 H11 2 _ rfl, c11 H11 3 _ rfl, c11 H11 4 _ rfl⟩, _, _, _, _, _, _, _, _, _, ⟨c12 H11 0 _ rfl, c12 H11 1 _ rfl, c12 H11 2 _ rfl, c12 H11 3 _ rfl, c12 H11 4 _ rfl⟩, _, _, _, _, _, _, ⟨c14 H11 0 _ rfl, c14 H11 1 _ rfl, c14 H11 2 _ rfl, c14 H11 3 _ rfl, c14 H11 4 _ rfl, c14 H11 5 _ rfl⟩, ?_⟩
    have hdo := does16_spec H11 hS (by omega) (by omega) (by omega) (by omega) hF x (by have := hA9.u8; omega) hA9.off (by omega)
    rw [hdl, hrl, hbl] at hdo
    refine hdo.mono fun e w12 ⟨he12, ds2, rs2, bu2, hS2, hF2, hdl2, hbl2, H12⟩ => ⟨_, he12, no rfl ?_⟩
    have hrl2 : rs2.length = C := by rw [← ads_len hS2.ads, hdl2]
    have hW := se_w H12.fst
    have hR := re_w H12.flip.fst
    have hF3 : FewL ds2 1000000 := hF2.mono (by omega)
    have hF4 : FewL rs2 1000000 := hF3.ads hS2.ads
    have cs11 : ∀ {w' : World}, Ext w12 w' → ∀ i v, (rwC s C C)[i]? = some v → w'.cell? ⟨k11, i, none⟩ = some v := fun hx => c11 (H12.quiet hx)
    have cs12 : ∀ {w' : World}, Ext w12 w' → ∀ i v, (rwC sr C C)[i]? = some v → w'.cell? ⟨k12, i, none⟩ = some v := fun hx => c12 (H12.quiet hx)
    have cs14 : ∀ {w' : World}, Ext w12 w' → ∀ i v, (waC x)[i]? = some v → w'.cell? ⟨k14, i, none⟩ = some v := fun hx => c14 (H12.quiet hx)
    -- Read
    have x12 := Ext.refl w12
    have r1 := read16_spec hW (by omega) hF3 x.row x.off
    rw [hdl2, hbl2] at r1
    refine ⟨_, _, _, _, _, _, _, _, _, ⟨cs11 x12 0 _ rfl, cs11 x12 1 _ rfl, cs11 x12 2 _ rfl, cs11 x12 3 _ rfl, cs11 x12 4 _ rfl⟩, _, cs14 x12 1 _ rfl, _, cs14 x12 2 _ rfl, ?_⟩
    refine r1.mono fun e w13 ⟨v13, he13, hv13⟩ => ?_
    obtain ⟨p13, a13, q13, b13, hvv, t13, i13, y13⟩ := hv13.view
    rw [hvv] at he13
    refine ⟨_, _, _, _, _, _, _, he13, ?_⟩
    have x13 := x12.trans y13
    have r2 := rread16_spec (hR.ext x13) (by omega) hF4 x.row x.off
    rw [hrl2, hbl2, hS2.read] at r2
    refine ⟨_, _, _, _, _, _, _, _, _, ⟨cs12 x13 0 _ rfl, cs12 x13 1 _ rfl, cs12 x13 2 _ rfl, cs12 x13 3 _ rfl, cs12 x13 4 _ rfl⟩, _, cs14 x13 1 _ rfl, _, cs14 x13 2 _ rfl, ?_⟩
    refine r2.mono fun e w14 ⟨v14, he14, hv14⟩ => ?_
    obtain ⟨p14, a14, q14, b14, hvv, t14, i14, y14⟩ := hv14.view
    rw [hvv] at he14
    refine ⟨_, _, _, _, _, _, _, he14, ?_⟩
    have x14 := x13.trans y14
    -- Filled
    have r3 := filled16_spec (hW.ext x14) (by omega) hF3 x.row x.off
    rw [hdl2, hbl2] at r3
    refine ⟨_, _, _, _, _, _, _, _, _, ⟨cs11 x14 0 _ rfl, cs11 x14 1 _ rfl, cs11 x14 2 _ rfl, cs11 x14 3 _ rfl, cs11 x14 4 _ rfl⟩, _, cs14 x14 1 _ rfl, _, cs14 x14 2 _ rfl, ?_⟩
    refine r3.mono fun e w15 ⟨v15, he15, hv15⟩ => ?_
    obtain ⟨p15, a15, q15, b15, hvv, t15, i15, y15⟩ := hv15.view
    rw [hvv] at he15
    refine ⟨_, _, _, _, _, _, _, he15, ?_⟩
    have x15 := x14.trans y15
    have hSh : ∀ X l, readR sr rs2 bu2 x.row x.off = .ok (X, l) → Short X := fun X l h => read_shortW hW X l (by rw [← hS2.read]; exact h)
    have r4 := rfilled16_spec (hR.ext x15) (by omega) hF4 x.row x.off hSh
    rw [hrl2, hbl2, hS2.fil] at r4
    refine ⟨_, _, _, _, _, _, _, _, _, ⟨cs12 x15 0 _ rfl, cs12 x15 1 _ rfl, cs12 x15 2 _ rfl, cs12 x15 3 _ rfl, cs12 x15 4 _ rfl⟩, _, cs14 x15 1 _ rfl, _, cs14 x15 2 _ rfl, ?_⟩
    refine r4.mono fun e w16 ⟨v16, he16, hv16⟩ => ?_
    obtain ⟨p16, a16, q16, b16, hvv, t16, i16, y16⟩ := hv16.view
    rw [hvv] at he16
    refine ⟨_, _, _, _, _, _, _, he16, ?_⟩
    have x16 := x15.trans y16
    -- Sector
    have r5 := set16_spec (hW.ext x16) (by omega) hF3 x.row x.off x.role
    rw [hdl2, hbl2] at r5
    refine ⟨_, _, _, _, _, _, _, _, _, ⟨cs11 x16 0 _ rfl, cs11 x16 1 _ rfl, cs11 x16 2 _ rfl, cs11 x16 3 _ rfl, cs11 x16 4 _ rfl⟩, _, cs14 x16 1 _ rfl, _, cs14 x16 2 _ rfl, _, cs14 x16 3 _ rfl, ?_⟩
    refine r5.mono fun e w17 ⟨he17, y17⟩ => ⟨_, _, he17, ?_⟩
    have x17 := x16.trans y17
    have r6 := rset16_spec (hR.ext x17) (by omega) hF4 x.row x.off x.role hSh
    rw [hrl2, hbl2, hS2.sect] at r6
    refine ⟨_, _, _, _, _, _, _, _, _, ⟨cs12 x17 0 _ rfl, cs12 x17 1 _ rfl, cs12 x17 2 _ rfl, cs12 x17 3 _ rfl, cs12 x17 4 _ rfl⟩, _, cs14 x17 1 _ rfl, _, cs14 x17 2 _ rfl, _, cs14 x17 3 _ rfl, ?_⟩
    refine r6.mono fun e w18 ⟨he18, y18⟩ => ⟨_, _, he18, ?_⟩
    have x18 := x17.trans y18
    -- Lost
    have r7 := lost16_spec (hW.ext x18) (by omega) x.row
    rw [hdl2, hbl2] at r7
    refine ⟨_, _, _, _, _, _, _, _, _, ⟨cs11 x18 0 _ rfl, cs11 x18 1 _ rfl, cs11 x18 2 _ rfl, cs11 x18 3 _ rfl, cs11 x18 4 _ rfl⟩, _, cs14 x18 1 _ rfl, ?_⟩
    refine r7.mono fun e w19 ⟨v19, he19, hv19⟩ => ?_
    obtain ⟨p19, a19, hvv, i19, y19⟩ := hv19.view
    rw [hvv] at he19
    refine ⟨_, _, _, _, he19, ?_⟩
    have x19 := x18.trans y19
    have r8 := rlost16_spec (hR.ext x19) (by omega) x.row
    rw [hrl2, hbl2, hS2.lost] at r8
    refine ⟨_, _, _, _, _, _, _, _, _, ⟨cs12 x19 0 _ rfl, cs12 x19 1 _ rfl, cs12 x19 2 _ rfl, cs12 x19 3 _ rfl, cs12 x19 4 _ rfl⟩, _, cs14 x19 1 _ rfl, ?_⟩
    refine r8.mono fun e w20 ⟨v20, he20, hv20⟩ => ?_
    obtain ⟨p20, a20, hvv, i20, y20⟩ := hv20.view
    rw [hvv] at he20
    refine ⟨_, _, _, _, he20, ?_⟩
    have x20 := x19.trans y20
    -- all of it is the same
    obtain ⟨la, lb⟩ := read_len (s := s) (ds := ds2) (bu := bu2) x.row x.off
    obtain ⟨lc, ld⟩ := fil_len2 (s := s) (ds := ds2) (bu := bu2) x.row x.off
    have le := lost_len (s := s) (ds := ds2) (bu := bu2) x.row
    have z14 := y15.trans (y16.trans (y17.trans (y18.trans (y19.trans y20))))
    have z16 := y17.trans (y18.trans (y19.trans y20))
    refine (same_spec (by omega) (t13.ext (y14.trans z14)) (t14.ext z14)).mono fun e w21 ⟨he21, y21⟩ => ⟨_, he21, no (by simp) ?_⟩
    refine (sameI_spec (by omega) (i13.ext (y14.trans (z14.trans y21))) (i14.ext (z14.trans y21))).mono fun e w22 ⟨he22, y22⟩ => ⟨_, he22, no (by simp) (no (by simp) ?_)⟩
    have z22 := z16.trans (y21.trans y22)
    refine (same_spec (by omega) (t15.ext (y16.trans z22)) (t16.ext z22)).mono fun e w23 ⟨he23, y23⟩ => ⟨_, he23, no (by simp) ?_⟩
    refine (sameI_spec (by omega) (i15.ext (y16.trans (z22.trans y23))) (i16.ext (z22.trans y23))).mono fun e w24 ⟨he24, y24⟩ => ⟨_, he24, no (by simp) (no (by simp) (no (by simp) (no (by simp) ?_)))⟩
    have z24 := y21.trans (y22.trans (y23.trans y24))
    refine (sameI_spec (by omega) (i19.ext (y20.trans z24)) (i20.ext z24)).mono fun e w25 ⟨he25, y25⟩ => ⟨_, he25, no (by simp) (no (by simp) ?_)⟩
    refine ⟨⟨i + 1, ds2, rs2, bu2, by rw [wrap64 _ (by omega) (by omega)]; rfl, by omega, hS2, hF2, hdl2, hrl2, hbl2, (H12.quiet (x20.trans (z24.trans y25))).dropX⟩, ?_⟩
    show ((l.length : Int) - IntKind.i64.wrap ((i : Int) + 1)).toNat < ((l.length : Int) - (i : Int)).toNat
    rw [wrap64 _ (by omega) (by omega)]; omega
  · have c11 : ∀ {h : Kd} {w' : World}, Ow h [] w w' [blk k12 (rwC sr C C) 33, blk k11 (rwC s C C) 30] → ∀ i v, (rwC s C C)[i]? = some v → w'.cell? ⟨k11, i, none⟩ = some v := fun h' i v hv => h'.ld (by repeat (first | exact List.Mem.head _ | refine List.Mem.tail _ ?_)) hv
    have c12 : ∀ {h : Kd} {w' : World}, Ow h [] w w' [blk k12 (rwC sr C C) 33, blk k11 (rwC s C C) 30] → ∀ i v, (rwC sr C C)[i]? = some v → w'.cell? ⟨k12, i, none⟩ = some v := fun h' i v hv => h'.ld (by repeat (first | exact List.Mem.head _ | refine List.Mem.tail _ ?_)) hv
    have H10 := H9.drew
    refine ⟨fun w' => ∃ h, Ow h [] w w' [blk k12 (rwC sr C C) 33, blk k11 (rwC s C C) 30], ⟨_, H10⟩, _, _, _, _, _, _, _, _, _, fun w' ⟨h, h'⟩ => ⟨c11 h' 0 _ rfl, c11 h' 1 _ rfl, c11 h' 2 _ rfl, c11 h' 3 _ rfl, c11 h' 4 _ rfl⟩, ?_⟩
    have m1 := may16_spec (se_w H10.fst) (by omega)
    rw [hdl, hbl] at m1
    refine m1.mono fun e w11 ⟨he11, hx11⟩ => ⟨_, he11, ⟨_, H10.quiet hx11⟩, _, _, _, _, _, _, _, _, _, fun w' ⟨h, h'⟩ => ⟨c12 h' 0 _ rfl, c12 h' 1 _ rfl, c12 h' 2 _ rfl, c12 h' 3 _ rfl, c12 h' 4 _ rfl⟩, ?_⟩
    have H11 := H10.quiet hx11
    have m2 := rmay16_spec (re_w H11.flip.fst) (by omega)
    rw [hrl, hbl] at m2
    refine m2.mono fun e w12 ⟨he12, hx12⟩ => ⟨_, he12, ⟨_, H11.quiet hx12⟩, ?_, (H11.quiet hx12).ext⟩
    rw [decide_eq_decide.2 hS.may, beq_self_eq_true]
end Go.Proofs.YtedbbdeeofdepaaGreat
end
section
/-! A row's end, of a call that makes no more than new memory. -/
namespace Go.Sh
open Go.RowKit Go.ChangeShapes Go.WideShapes
theorem Ext.kept {W W' : World} (h : Ext W W') (may : MemPlace → Prop) : W.keptBut W' may := by
  refine ⟨h.os, h.output, fun i hi => ?_⟩
  rw [h.heap i hi]
  cases hw : W.heap[i]? with
  | none => simp
  | some o => cases o <;> simp
theorem Ext.frozen {W W' : World} (h : Ext W W') {a : Addr} (ha : a.block < W.heap.size) : W'.frozen? a = W.frozen? a := by simp only [World.frozen?, h.heap _ ha]
theorem post_ext {P : Program} {H : Type} {enc : TypeId × Value → H} {f : Func} {s : ChangeSpec} {apart fresh handsOn again : Bool} {W W' : World} {args : Array Value} {v : Value} {ds gs : List (DataW H)} {before pa pv : List MemPlace}
    (hW : DataW.Whole enc P f.params.toList s.vars apart W args.toList ds gs before)
    (hres : ∀ (b : Nat) (sp : Nat → Bool) (hd : Bool), DataW.TrodAll enc P W' b sp hd f.resultTypes.toList (v.resultList f.resultTypes.size) (s.fn H (ds ++ gs)).results [])
    (hargs : ∀ sp : Nat → Bool, (∀ p ∈ before, sp p.block = true) → DataW.TrodAll enc P W' 0 sp true f.params.toList args.toList (s.fn H (ds ++ gs)).args pa)
    (hvars : ∀ sp : Nat → Bool, (∀ p ∈ before, sp p.block = true) → DataW.TrodVars enc P W' sp s.vars (s.fn H (ds ++ gs)).vars pv)
    (hps : before = pa ++ pv) (hx : Ext W W')
    (hok : ∀ (j : Nat) (t : TypeId) (r : Value), f.resultTypes[j]? = some t → (v.resultList f.resultTypes.size)[j]? = some r → Value.okWide P W' .any 0 t r) :
    s.post enc P f apart fresh handsOn again W args v W' := by
  have hlt : ∀ p ∈ before, p.block < W.heap.size := hW.lt
  have hold : ∀ p ∈ before, (fun b => decide (b < W.heap.size)) p.block = true := fun p hp => by simpa using hlt p hp
  refine ⟨ds, gs, before, [], pa, pv, hW, hres _ _ _, hargs _ hold, hvars _ hold, World.keptBut_mono (fun p hp => ⟨hp, ?_⟩) (hx.kept (· ∈ before)), fun _ => ?_⟩
  · rw [hps, List.mem_append] at hp
    exact Or.inr hp
  · obtain ⟨_, _, _, _, _, hz, hn⟩ := hW
    refine ⟨hok, _, _, ([] ++ pa) ++ pv, ⟨[] ++ pa, pv, trodAll_append (hargs _ (fun _ _ => rfl)) (hres _ _ _), hvars _ (fun _ _ => rfl), rfl, ?_, ?_⟩, ?_⟩
    · intro b off hp
      have hb : (MemPlace.cell b off) ∈ before := by rw [hps]; simpa using hp
      rw [hx.frozen (hlt _ hb)]
      exact hz b off hb
    · intro ha
      have := hn ha
      rw [hps] at this
      simpa using this
    · intro p hp _
      rw [hps]
      simpa using hp
theorem u8_of {a : Int} (h : (Lit.int .u8 a).wf = true) : 0 ≤ a ∧ a ≤ 255 := by
  simp [Lit.wf, IntKind.min, IntKind.max, IntKind.bits, IntKind.signed] at h
  omega
end Go.Sh
end
section
/-! A law's row: what its arguments tell, and that they read as they did. -/
namespace Go.Sh
open Go.ChangeShapes Go.WideShapes Go.ChangeAt Go.RowKit
set_option linter.unusedVariables false
theorem Ext.same {W W' : World} (h : Ext W W') {p : MemPlace} (hp : p.block < W.heap.size) : W.sameAt W' p := by
  cases p with
  | cell b o => show W'.cell? ⟨b, o, none⟩ = W.cell? ⟨b, o, none⟩; unfold World.cell?; rw [h.heap b hp]
  | map b => show W'.heap[b]? = W.heap[b]?; exact h.heap b hp
theorem trodAll_carry {H : Type} {enc : TypeId × Value → H} {P : Program} {W W' : World} {sp : Nat → Bool} : ∀ {ts : List TypeId} {vs : List Value} {ds : List (DataW H)} {ps : List MemPlace}, DataW.TrodAll enc P W 0 sp true ts vs ds ps → (∀ p ∈ ps, W.sameAt W' p) → DataW.TrodAll enc P W' 0 sp true ts vs ds ps
  | [], [], [], _, h, _ => h
  | _ :: _, _ :: _, _ :: _, _, ⟨p, q, ⟨n, h1⟩, h2, e⟩, hs => ⟨p, q, ⟨n, DataW.trod_carry n _ _ _ h1 fun x hx => hs x (by rw [e]; exact List.mem_append_left _ hx)⟩, trodAll_carry h2 fun x hx => hs x (by rw [e]; exact List.mem_append_right _ hx), e⟩
theorem law_post {P : Program} {H : Type} {enc : TypeId × Value → H} {f : Func} {s : ChangeSpec} {apart fresh handsOn again : Bool} {W W' : World} {args : Array Value} {ds gs : List (DataW H)} {before : List MemPlace} {tb : TypeId}
    (hl : laidOutB P = true) (hm : mapsRowed P = true) (hz : ((List.range P.types.size).all fun t => match P.underlying t with | some (.slice e) => decide (0 < P.cellsOf e) | _ => true) = true) (htp : (f.params.toList.all fun t => decide (t < P.types.size)) = true)
    (hW : DataW.Whole enc P f.params.toList s.vars apart W args.toList ds gs before) (hv : s.vars = []) (hargs : (s.fn H (ds ++ gs)).args = ds) (hres : (s.fn H (ds ++ gs)).results = [.lit (.bool true)]) (hvars : (s.fn H (ds ++ gs)).vars = [])
    (hrt : f.resultTypes = #[tb]) (htb : P.underlying tb = some .bool) (hx : Ext W W') : s.post enc P f apart fresh handsOn again W args (.bool true) W' := by
  have hlt := hW.lt
  have hW' := hW
  obtain ⟨p, q, hA, hV, rfl, hfz, hnd⟩ := hW
  rw [hv] at hV
  obtain ⟨rfl, rfl⟩ := trodVars_none hV
  rw [List.append_nil] at hW' hlt
  have hT : ∀ t ∈ f.params.toList, t < P.types.size := fun t ht => by simpa using List.all_eq_true.1 htp t ht
  refine post_ext (pa := p) (pv := []) hW' (fun _ _ _ => ?_) (fun sp hsp => ?_) (fun sp _ => ?_) (by simp) hx ?_
  · rw [hres, hrt]
    exact trodAll_cons_mk (shut_bool htb _) trodAll_mk0
  · rw [hargs]
    exact DataW.TrodAll.respare (kids_rows hl hm) (slices_full_of P hz) hT (trodAll_carry hA fun x hx' => hx.same (hlt x hx')) hsp
  · rw [hvars, hv]; rfl
  · exact ok_one hrt rfl (okWide_bool_mk htb _)
section
variable {P : Program} {H : Type} {enc : TypeId × Value → H} {w : World} {t e : TypeId} {v : Value} {d : DataW H} {ps : List MemPlace} {r : Reach} {b0 : Nat}
end
end Go.Sh
namespace Go.Proofs.YtedbbdeeofdepaaGreat
theorem own : ownKnob Tryz.prog.godebug = none := by kernel_rfl
theorem rows_laid : laidOutB Tryz.prog = true := by kernel_rfl
theorem rows_maps : mapsRowed Tryz.prog = true := by kernel_rfl
theorem rows_full : ((List.range Tryz.prog.types.size).all fun t => match Tryz.prog.underlying t with | some (.slice e) => decide (0 < Tryz.prog.cellsOf e) | _ => true) = true := by kernel_rfl
end Go.Proofs.YtedbbdeeofdepaaGreat
end
section
/-! A law's row: slices of structs. -/
namespace Go.Sh
open Go.ChangeShapes Go.WideShapes Go.ChangeAt Go.RowKit
set_option linter.unusedVariables false
mutual
/-- the one-cell parts of a type: which type, and where -/
def leaves (P : Program) : Nat → TypeId → Option (List (TypeId × Nat × Nat))
  | 0, _ => none
  | d + 1, t => match P.underlying t with
    | some (.struct fs) => leavesF P d (P.cellsOf t) fs.toList
    | some (.array n e) => if n ≤ 12 && n * P.cellsOf e == P.cellsOf t then (leaves P d e).map fun l => (List.range n).flatMap fun i => l.map fun x => (x.1, i * P.cellsOf e + x.2.1, x.2.2) else none
    | some _ => some [(t, 0, P.cellsOf t)]
    | none => none
def leavesF (P : Program) : Nat → Nat → List Field → Option (List (TypeId × Nat × Nat))
  | _, _, [] => some []
  | 0, _, _ => none
  | d + 1, C, f :: fs => if f.offset + P.cellsOf f.type ≤ C then match leaves P d f.type, leavesF P d C fs with
    | some a, some b => some (a.map (fun x => (x.1, f.offset + x.2.1, x.2.2)) ++ b)
    | _, _ => none else none
end
section
variable {P : Program} {H : Type} {enc : TypeId × Value → H} {w : World} {sp : Nat → Bool}
def LeafAt (enc : TypeId × Value → H) (P : Program) (w : World) (sp : Nat → Bool) (cs : List Value) (x : TypeId × Nat × Nat) : Prop := x.2.1 + x.2.2 ≤ cs.length ∧ ∃ n y, DataW.trod enc P w 0 sp true n x.1 ((cs.drop x.2.1).take x.2.2) = some y
theorem LeafAt.sub {cs : List Value} {o n : Nat} {x : TypeId × Nat × Nat} (hn : o + n ≤ cs.length) (h : LeafAt enc P w sp ((cs.drop o).take n) x) : LeafAt enc P w sp cs (x.1, o + x.2.1, x.2.2) := by
  obtain ⟨h1, m, y, h2⟩ := h
  rw [List.length_take, List.length_drop] at h1
  refine ⟨?_, m, y, ?_⟩
  · show o + x.2.1 + x.2.2 ≤ _; omega
  rw [List.drop_take, List.drop_drop, List.take_take] at h2
  show DataW.trod enc P w 0 sp true m x.1 ((cs.drop (o + x.2.1)).take x.2.2) = some y
  rwa [show min x.2.2 (n - x.2.1) = x.2.2 by omega] at h2
mutual
theorem leaves_trod : ∀ (d : Nat) (t : TypeId) (l : List (TypeId × Nat × Nat)) (cs : List Value) (n : Nat) (y : DataW H × List MemPlace), leaves P d t = some l → cs.length = P.cellsOf t → DataW.trod enc P w 0 sp true n t cs = some y → ∀ x ∈ l, LeafAt enc P w sp cs x
  | 0, _, _, _, _, _, h, _, _ => by cases h
  | d + 1, t, l, cs, n, y, h, hl, hd => by
    unfold leaves at h
    split at h
    · rename_i fs hu
      obtain ⟨xs, m, _, _, _, hlen, hf⟩ := DataW.trod_struct hu hd
      exact leavesF_trod d (P.cellsOf t) fs.toList l cs m h hl fun f hm => by
        obtain ⟨i, hi⟩ := List.mem_iff_getElem?.1 hm
        have h1 := hf i f (by simpa using hi)
        have : i < xs.length := by rw [hlen]; have := (List.getElem?_eq_some_iff.1 hi).1; simpa using this
        rw [List.getElem?_eq_getElem this] at h1
        exact ⟨_, h1⟩
    · rename_i k e hu
      split at h
      · rename_i hc
        simp only [Bool.and_eq_true, decide_eq_true_eq, beq_iff_eq] at hc
        simp only [Option.map_eq_some_iff] at h
        obtain ⟨le, he, rfl⟩ := h
        obtain ⟨xs, m, _, _, _, hlen, hf⟩ := DataW.trod_array hu hd
        intro x hx
        simp only [List.mem_flatMap, List.mem_range, List.mem_map] at hx
        obtain ⟨i, hi, x0, hx0, rfl⟩ := hx
        have h1 := hf i hi
        rw [List.getElem?_eq_getElem (by omega)] at h1
        have hb : i * P.cellsOf e + P.cellsOf e ≤ cs.length := by
          rw [hl, ← hc.2]
          have : (i + 1) * P.cellsOf e ≤ k * P.cellsOf e := Nat.mul_le_mul_right _ hi
          rw [Nat.add_mul, Nat.one_mul] at this
          exact this
        exact LeafAt.sub hb (leaves_trod d e le _ m _ he (by rw [List.length_take, List.length_drop]; omega) h1 x0 hx0)
      · cases h
    · rename_i hu1 hu2 hu3
      cases h
      intro x hx
      obtain rfl := List.mem_singleton.1 hx
      refine ⟨by simp [hl], n, y, ?_⟩
      rw [List.drop_zero, ← hl, List.take_length]
      exact hd
    · cases h
theorem leavesF_trod : ∀ (d C : Nat) (fs : List Field) (l : List (TypeId × Nat × Nat)) (cs : List Value) (n : Nat), leavesF P d C fs = some l → cs.length = C → (∀ f ∈ fs, ∃ y, DataW.trod enc P w 0 sp true n f.type ((cs.drop f.offset).take (P.cellsOf f.type)) = some y) → ∀ x ∈ l, LeafAt enc P w sp cs x
  | _, _, [], l, _, _, h, _, _ => by
    cases l with
    | nil => intro x hx; cases hx
    | cons a l => unfold leavesF at h; cases h
  | 0, _, _ :: _, _, _, _, h, _, _ => by cases h
  | d + 1, C, f :: fs, l, cs, n, h, hl, hf => by
    unfold leavesF at h
    split at h
    · rename_i hc
      split at h
      · rename_i a b ha hb
        cases h
        intro x hx
        rcases List.mem_append.1 hx with hx | hx
        · obtain ⟨x0, hx0, rfl⟩ := List.mem_map.1 hx
          obtain ⟨y, hy⟩ := hf f List.mem_cons_self
          exact LeafAt.sub (by omega) (leaves_trod d f.type a _ n y ha (by rw [List.length_take, List.length_drop]; omega) hy x0 hx0)
        · exact leavesF_trod d C fs b cs n hb hl (fun g hg => hf g (List.mem_cons_of_mem _ hg)) x hx
      · cases h
    · cases h
end
theorem leaf_one {cs : List Value} {t : TypeId} {i : Nat} (h : LeafAt enc P w sp cs (t, i, 1)) : ∃ v n y, cs[i]? = some v ∧ DataW.trod enc P w 0 sp true n t [v] = some y := by
  obtain ⟨h1, n, y, h2⟩ := h
  have hi : i < cs.length := by simp only at h1; omega
  refine ⟨cs[i], n, y, List.getElem?_eq_getElem hi, ?_⟩
  have : (cs.drop i).take 1 = [cs[i]] := by
    rw [List.drop_eq_getElem_cons hi]; rfl
  rwa [this] at h2
theorem leaf_int {cs : List Value} {t : TypeId} {i : Nat} {k : IntKind} (ht : P.underlying t = some (.int k)) (h : LeafAt enc P w sp cs (t, i, 1)) : ∃ n : Int, cs[i]? = some (.int k n) ∧ (Lit.int k n).wf = true := by
  obtain ⟨v, n, y, h1, h2⟩ := leaf_one h
  obtain ⟨m, h3, _, h4⟩ := DataW.trod_int ht h2
  obtain rfl : v = .int k m := by simpa using h3
  exact ⟨m, h1, h4⟩
theorem leaf_str {cs : List Value} {t : TypeId} {i : Nat} (ht : P.underlying t = some .string) (h : LeafAt enc P w sp cs (t, i, 1)) : ∃ s : ByteArray, cs[i]? = some (.string s) ∧ s.size ≤ maxLen := by
  obtain ⟨v, n, y, h1, h2⟩ := leaf_one h
  obtain ⟨m, h3, _, h4⟩ := DataW.trod_string ht h2
  obtain rfl : v = .string m := by simpa using h3
  exact ⟨m, h1, h4⟩
theorem cells_get {w : World} {a : Addr} {n : Nat} {cs : List Value} (h : w.cells? 0 a n = some cs) : cs.length = n ∧ ∀ k v, cs[k]? = some v → w.cell? (a.add k) = some v := by
  unfold World.cells? at h
  split at h
  · have hl : cs.length = n := by simpa using mapM_some_length h
    refine ⟨hl, fun k v hv => ?_⟩
    have hk : k < n := by have := (List.getElem?_eq_some_iff.1 hv).1; omega
    have h1 := mapM_some_get h k
    rw [hv] at h1
    simpa [hk] using h1
  · cases h
/-- a slice of structs: the cells of each one, and its parts -/
theorem open_rows {t e : TypeId} {v : Value} {d : DataW H} {ps : List MemPlace} {r : Reach} {b0 : Nat} {l : List (TypeId × Nat × Nat)} {dep C : Nat} (ht : P.underlying t = some (.slice e)) (hl : leaves P dep e = some l) (hC : P.cellsOf e = C) (hval : Value.okWide P w r b0 t v) (hd : DataW.Trod enc P w 0 (fun _ => true) true t v d ps) :
    ∃ (p : Option Addr) (len c : Nat), v = .slice p len c ∧ (len ≠ 0 → ∃ a, p = some a) ∧ ∀ a, p = some a → ∀ j, j < len → ∃ cs : List Value, cs.length = C ∧ (∀ k u, cs[k]? = some u → w.cell? ((a.add (j * C)).add k) = some u) ∧ ∀ x ∈ l, LeafAt enc P w (fun _ => true) cs x := by
  subst hC
  obtain ⟨a0, len, cap, rfl⟩ := okWide_slice ht hval
  obtain ⟨fuel, hf⟩ := hd
  rcases DataW.trod_slice ht hf with ⟨h0, _⟩ | ⟨a, len', cap', elems, rest, n, _, h0, _, hb, hle, hm, hlen, hel, _⟩
  · have : a0 = none ∧ len = 0 ∧ cap = 0 := by simpa [Value.cells] using h0
    obtain ⟨rfl, rfl, rfl⟩ := this
    exact ⟨none, 0, 0, rfl, fun h => absurd rfl h, (fun a ha => by cases ha)⟩
  · have : a0 = some a ∧ len = len' ∧ cap = cap' := by simpa [Value.cells] using h0
    obtain ⟨rfl, rfl, rfl⟩ := this
    refine ⟨some a, len, cap, rfl, fun _ => ⟨a, rfl⟩, fun a' ha' j hj => ?_⟩
    cases ha'
    have h1 := hel j hj
    rw [List.getElem?_eq_getElem (by omega)] at h1
    simp only [Option.bind_eq_some_iff] at h1
    obtain ⟨cs, hcs, ht2⟩ := h1
    obtain ⟨h2, h3⟩ := cells_get hcs
    exact ⟨cs, h2, h3, leaves_trod dep e l cs n _ hl h2 ht2⟩
theorem list_choice {α : Type} {Q : Nat → α → Prop} : ∀ (n : Nat), (∀ j, j < n → ∃ x, Q j x) → ∃ l : List α, l.length = n ∧ ∀ j x, l[j]? = some x → Q j x
  | 0, _ => ⟨[], rfl, fun j x h => by simp at h⟩
  | n + 1, h => by
    obtain ⟨l, hl, hq⟩ := list_choice n fun j hj => h j (by omega)
    obtain ⟨x, hx⟩ := h n (by omega)
    refine ⟨l ++ [x], by simp [hl], fun j y hy => ?_⟩
    rcases Nat.lt_or_ge j l.length with hj | hj
    · rw [List.getElem?_append_left hj] at hy; exact hq j y hy
    · rw [List.getElem?_append_right hj] at hy
      have : j = n := by have := (List.getElem?_eq_some_iff.1 hy).1; simp at this; omega
      subst this
      rw [hl, Nat.sub_self] at hy
      obtain rfl : x = y := by simpa using hy
      exact hx
end
end Go.Sh
end
section
/-! A law's row: bytes as numbers. -/
namespace Go.Proofs.YtedbbdeeofdepaaGreat
open Go.ChangeShapes Go.WideShapes Go.ChangeAt Go.RowKit Go.Sh
theorem u8_of {a : Int} (h : (Lit.int .u8 a).wf = true) : 0 ≤ a ∧ a < 256 := by
  simp [Lit.wf, IntKind.min, IntKind.max, IntKind.bits, IntKind.signed] at h
  omega
end Go.Proofs.YtedbbdeeofdepaaGreat
end
section
/-! A law's row: acts of a set. -/
namespace Go.Proofs.YtedbbdeeofdepaaGreat
open Go.ChangeShapes Go.WideShapes Go.ChangeAt Go.RowKit Go.Sh
set_option linter.unusedVariables false
set_option maxRecDepth 20000
theorem wfi {a : Int} (h : (Lit.int .i64 a).wf = true) : a ≤ 9223372036854775807 := by
  simp [Lit.wf, IntKind.min, IntKind.max, IntKind.bits, IntKind.signed] at h
  omega
theorem open_wacts {H : Type} {enc : TypeId × Value → H} {w : World} {v : Value} {d : DataW H} {ps : List MemPlace} {r : Reach} {b0 : Nat} (hval : Value.okWide Tryz.prog w r b0 54 v) (hd : DataW.Trod enc Tryz.prog w 0 (fun _ => true) true 54 v d ps) :
    ∃ (p : Option Addr) (c : Nat) (l : List WA), v = .slice p l.length c ∧ wactsAt w p l := by
  have hlv : leaves Tryz.prog 20 57 = some [(3, 0, 1), (3, 1, 1), (3, 2, 1), (3, 3, 1), (5, 4, 1), (9, 5, 1)] := by kernel_rfl
  obtain ⟨p, len, c, rfl, hp, hat⟩ := open_rows (e := 57) (by kernel_rfl) hlv (C := 6) (by kernel_rfl) hval hd
  have key : ∀ j, j < len → ∃ x : WA, ∀ a, p = some a → WAt w (a.add (j * 6)) x := by
    intro j hj
    cases hpa : p with
    | none => exact ⟨⟨0, 0, 0, 0, 0, []⟩, fun a ha => by cases ha⟩
    | some a =>
      obtain ⟨cs, hl, hc, hx⟩ := hat a hpa j hj
      obtain ⟨k, e0, _⟩ := leaf_int (k := .i64) (by kernel_rfl) (hx (3, 0, 1) (by simp))
      obtain ⟨ro, e1, _⟩ := leaf_int (k := .i64) (by kernel_rfl) (hx (3, 1, 1) (by simp))
      obtain ⟨o, e2, w2⟩ := leaf_int (k := .i64) (by kernel_rfl) (hx (3, 2, 1) (by simp))
      obtain ⟨rl, e3, _⟩ := leaf_int (k := .i64) (by kernel_rfl) (hx (3, 3, 1) (by simp))
      obtain ⟨u, e4, wu⟩ := leaf_int (k := .u8) (by kernel_rfl) (hx (5, 4, 1) (by simp))
      obtain ⟨s, e5, _⟩ := leaf_str (by kernel_rfl) (hx (9, 5, 1) (by simp))
      refine ⟨⟨k, ro, o, rl, u, s.data.toList⟩, fun a' ha' => ?_⟩
      cases ha'
      refine ⟨fun m v hv => hc m v ?_, u8_of wu, wfi w2⟩
      have hm : m < 6 := (Array.getElem?_eq_some_iff.1 hv).1
      match m, hm with
      | 0, _ => exact e0.trans hv
      | 1, _ => exact e1.trans hv
      | 2, _ => exact e2.trans hv
      | 3, _ => exact e3.trans hv
      | 4, _ => exact e4.trans hv
      | 5, _ =>
        refine Eq.trans ?_ hv
        rw [e5]
        show some (Value.string s) = some (Value.string (strB s.data.toList))
        rw [strB_list]
  obtain ⟨l, hll, hq⟩ := list_choice len key
  exact ⟨p, c, l, by rw [hll], fun hn => hp fun h0 => hn (List.eq_nil_of_length_eq_zero (by omega)), fun a ha j x hx => hq j x hx a ha⟩
end Go.Proofs.YtedbbdeeofdepaaGreat
end
