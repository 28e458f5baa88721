import Derived.ChangeSame
import Derived.Test.YtedbbdeeofdepaaGreatProg
import Derived.ReadAgain
import Derived.ChangeMaps5
import Derived.SliceStrings
import Derived.ChangeSlices
import Derived.WalkKit
import Derived.ProofKit
import Derived.OpenShut
import Derived.Lib.SmallJoins
import Derived.Test.YtedbbdeeofdepaaGreatM2
import Derived.Test.YtedbbdeeofdepaaGreatM12
section
/-! row: RowArgs. -/
namespace Go.Proofs.YtedbbdeeofdepaaGreat
open Go.Sh Go.RowKit
set_option linter.unusedVariables false
set_option linter.unusedSimpArgs false
set_option maxRecDepth 20000
set_option maxHeartbeats 1000000
theorem writeD_blks (s : RwS) (ds : List Od) (bu : List Int) (row off role : Int) (x : ByteArray) : blks (writeD s ds bu row off role x) = blks ds := by
  unfold writeD
  split
  · rfl
  split
  · rfl
  split
  · rfl
  · rename_i y hy
    obtain ⟨p, a⟩ := y
    exact blks_set (thereO_get hy).1
theorem writeD_few {s : RwS} {ds : List Od} {bu : List Int} {row off role : Int} {x : ByteArray} {M : Nat} (h : FewL ds M) : FewL (writeD s ds bu row off role x) (M + 1) := by
  unfold writeD
  split
  · exact h.mono (by omega)
  split
  · exact h.mono (by omega)
  split
  · exact h.mono (by omega)
  · rename_i y hy
    obtain ⟨p, a⟩ := y
    exact (h.mono (Nat.le_succ M)).set ((h p a (List.mem_of_getElem? (thereO_get hy).1)).write _ _)
theorem writeD_len (s : RwS) (ds : List Od) (bu : List Int) (row off role : Int) (x : ByteArray) : (writeD s ds bu row off role x).length = ds.length := by
  have := congrArg List.length (writeD_blks s ds bu row off role x)
  rwa [blks_len, blks_len] at this
/-- what is read of drives that hold -/
theorem SetHold.sec {s : RwS} {ds : List Od} {bu : List Int} {N : Nat} {f : Nat → Nat → ByteArray} (hH : SetHold ds N f) (h : SetOn s ds bu N) {row off role : Int} (hr : 0 ≤ row ∧ row < s.r) (ho : 0 ≤ off ∧ off < s.k) (h0 : 0 ≤ role ∧ role < s.c) : secR s ds bu row off role = (f (colR s row role).toNat (sectorG s.c s.k s.r row off).toNat, 0) := by
  obtain ⟨p, a, hk, ha, hs⟩ := h.sec (off := off) hr h0
  have hlt : (colR s row role).toNat < ds.length := by have := (colR_nat h.ok hr h0).2; have := h.len; omega
  obtain ⟨q, b, hk2, hb⟩ := hH _ hlt
  rw [hk] at hk2
  cases hk2
  have hi := sectorG_in h.ok hr ho
  have := h.size
  rw [hs]
  have e : sectorG s.c s.k s.r row off = ((sectorG s.c s.k s.r row off).toNat : Int) := by omega
  rw [e, hb.read (by omega), Int.toNat_natCast]
theorem colL_none {f : Nat → ByteArray × Int} {n : Nat} (h : ∀ i, i < n → (f i).2 = 0) : colL f n = [] := by
  unfold colL
  rw [List.map_eq_nil_iff, List.filter_eq_nil_iff]
  intro i hi
  simp [h i (List.mem_range.1 hi)]
theorem SetHold.read {s : RwS} {ds : List Od} {bu : List Int} {N : Nat} {f : Nat → Nat → ByteArray} (hH : SetHold ds N f) (h : SetOn s ds bu N) {row off : Int} (hr : 0 ≤ row ∧ row < s.r) (ho : 0 ≤ off ∧ off < s.k) :
    readR s ds bu row off = .ok ((List.range s.c.toNat).map (fun i : Nat => (f (colR s row i).toNat (sectorG s.c s.k s.r row off).toNat).data.toList), []) := by
  have hs : ∀ i : Nat, i < s.c.toNat → secR s ds bu row off i = (f (colR s row i).toNat (sectorG s.c s.k s.r row off).toNat, 0) := fun i hi => hH.sec h hr ho (by omega)
  unfold readR
  rw [if_neg (by rw [h.at0 hr ho]; simp), if_neg]
  · rw [colL_none fun i hi => by rw [hs i hi]]
    congr 2
    unfold colX
    exact List.map_congr_left fun i hi => congrArg (fun z : ByteArray × Int => z.1.data.toList) (hs i (List.mem_range.1 hi))
  · intro ha
    obtain ⟨i, hi, hb⟩ := List.any_eq_true.1 ha
    rw [hs i (List.mem_range.1 hi)] at hb
    cases hb
theorem ptrsAt.drop {w : World} {p : Option Addr} {l : List (Option Nat)} (h : ptrsAt w p l) {c n : Nat} (hc : l.length ≤ c) : ptrsAt w (cutP p c n) (l.drop n) := by
  unfold cutP
  by_cases e : c = n
  · have : l.drop n = [] := by simp; omega
    rw [this]
    exact ⟨fun hn => absurd rfl hn, fun a ha j s hj => by simp at hj⟩
  · rw [if_neg e]
    refine ⟨fun hn => ?_, fun a ha j s hj => ?_⟩
    · obtain ⟨a, ha⟩ := h.1 (by intro e; subst e; simp at hn)
      exact ⟨_, by rw [ha]; rfl⟩
    · obtain ⟨a', ha', rfl⟩ := Option.map_eq_some_iff.1 ha
      rw [List.getElem?_drop] at hj
      rw [add_add]
      exact h.2 a' ha' _ s hj
theorem Ow.tail {ds : List Od} {F : List Nat} {w0 w : World} {X : List A} (H : Ow (dsK ds) F w0 w X) : Ow (dsK (ds.drop 1)) F w0 w X := by
  cases ds with
  | nil => exact H
  | cons y t => exact Ow.fst (Ow.flip (h := odK y) (g := allK odK t) H)
theorem drives_from {p : Option Addr} {n c : Nat} {lo : Int} (h0 : 0 ≤ lo) (h1 : lo ≤ (n : Int)) (w : World) : (Instr.sliceAt 27 (.slice p n c) (some (.int .i64 lo)) none none).run Tryz.prog w = .ok (.slice (cutP p c lo.toNat) (n - lo.toNat) (c - lo.toNat)) w := by
  have sz : (sizeOf (Tryz.prog.elem 27)).run Tryz.prog w = .ok 1 w := by kernel_rfl
  rw [run_sliceAt_slice w _ _ _ _ _ (by kernel_rfl), run_slice_l w _ _ _ _ (by kernel_rfl) _ _ h0 h1, sz]
  simp only [Result.andThen, sliced, Nat.mul_one]
  rfl
def rdE (r : Except Int (List Txt × List Int)) : Int := match r with
  | .error n => n
  | .ok _ => 0
theorem rd_any {r : Except Int (List Txt × List Int)} {w w' : World} {v : Value} (h : RdP r w v w') : ∃ (p : Option Addr) (l c : Nat) (p' : Option Addr) (l' c' : Nat), v = .tuple #[.slice p l c, .slice p' l' c', .int .i64 (rdE r)] ∧ Ext w w' := by
  cases r with
  | error n => exact ⟨_, _, _, _, _, _, h⟩
  | ok x =>
    obtain ⟨g, c, g', c', h1, h2⟩ := h
    exact ⟨_, _, _, _, _, _, h1, h2.chg.ext⟩
def loE (r : Except Int (List Int)) : Int := match r with
  | .error n => n
  | .ok _ => 0
theorem lo_any {r : Except Int (List Int)} {w w' : World} {v : Value} (h : LoP r w v w') : ∃ (p : Option Addr) (l c : Nat), v = .tuple #[.slice p l c, .int .i64 (loE r)] ∧ Ext w w' := by
  cases r with
  | error n => exact ⟨_, _, _, h⟩
  | ok x =>
    obtain ⟨g, c, h1, h2⟩ := h
    exact ⟨_, _, _, h1, h2.chg.ext⟩
theorem args16_law {a b d row off role : Int} (ha : 0 ≤ a ∧ a ≤ 255) (hb : 0 ≤ b ∧ b ≤ 255) (hd : 0 ≤ d ∧ d ≤ 255) (w : World) :
    Ret Tryz.prog 5 #[.int .u8 a, .int .u8 b, .int .u8 d, .int .i64 row, .int .i64 off, .int .i64 role] w (.bool true) := by
  refine ret_of (revetmentlaw16_RowArgs_calls ?_)
  unfold revetmentlaw16_RowArgs
  refine (geo16_spec ha hb hd w).mono fun e w1 ⟨he1, hx1⟩ => ⟨_, _, _, he1, ?_⟩
  have hG : OkG (4 + a % 4) (1 + b % 3) (1 + d % 6) := by unfold OkG; omega
  have hcB : 1 ≤ 4 + a % 4 ∧ 4 + a % 4 ≤ 10 := by omega
  have hkB : 1 ≤ 1 + b % 3 ∧ 1 + b % 3 ≤ 100 := by omega
  have hrB : 1 ≤ 1 + d % 6 ∧ 1 + d % 6 ≤ 40 := by omega
  generalize 4 + a % 4 = gc at hG hcB
  generalize 1 + b % 3 = gk at hG hkB
  generalize 1 + d % 6 = gr at hG hrB
  have hgc : 4 ≤ gc ∧ gc ≤ 10 := ⟨hG.1, hG.2.1⟩
  refine Alloc.t ((T.nil w).quiet hx1) fun k13 w2 h2 => St.t h2 .head (by simp) rfl rfl fun w3 h3 => St.t h3 .head (by simp) rfl rfl fun w4 h4 => St.t h4 .head (by simp) rfl rfl fun w5 h5 => ?_
  have h5 : T [] w w5 [blk k13 #[.int .i64 gc, .int .i64 gk, .int .i64 gr] 25] := h5
  refine ⟨_, _, _, ⟨h5.ld (b := k13) (by repeat (first | exact List.Mem.head _ | refine List.Mem.tail _ ?_)) rfl, h5.ld (b := k13) (by repeat (first | exact List.Mem.head _ | refine List.Mem.tail _ ?_)) rfl, h5.ld (b := k13) (by repeat (first | exact List.Mem.head _ | refine List.Mem.tail _ ?_)) rfl⟩, ?_⟩
  refine (pair16_spec hcB hkB hrB false w5).mono fun e w6 ⟨s, sr, ds, rs, X, hP, he6, H6⟩ => ⟨_, _, _, _, _, _, _, _, _, _, _, _, _, _, _, _, _, _, he6, ?_⟩
  have hpos : 0 ≤ gr * gk := Int.mul_nonneg (by omega) (by omega)
  obtain ⟨hS, hH, hRX, hl⟩ := hP.on hG (by show ((4 + gr * gk).toNat : Int) = _; omega)
  obtain ⟨ec, ek, er⟩ := hP.g
  have H6 : Ow (dsK ds) [] w w6 (X ++ [blk k13 #[.int .i64 gc, .int .i64 gk, .int .i64 gr] 25]) := Ow.over H6.fst h5
  refine H6.alloc fun k14 w7 H7 => H7.alloc fun k15 w8 H8 => ?_
  refine Ow.st5 H8 (v3 := .slice s.pd gc.toNat s.cd) (v4 := .slice s.pb gc.toNat s.cb) (by repeat (first | exact Turn.head | apply Turn.tail)) rfl rfl rfl rfl rfl fun w9 H9 => ?_
  refine Ow.st5 H9 (v3 := .slice sr.pd gc.toNat sr.cd) (v4 := .slice sr.pb gc.toNat sr.cb) (by repeat (first | exact Turn.head | apply Turn.tail)) rfl rfl rfl rfl rfl fun w10 H10 => ?_
  have H10 : Ow (dsK ds) [] w w10 (blk k15 (rwC sr gc.toNat gc.toNat) 33 :: blk k14 (rwC s gc.toNat gc.toNat) 30 :: (X ++ [blk k13 #[.int .i64 gc, .int .i64 gk, .int .i64 gr] 25])) := H10
  have hRX : RwX s ds (List.replicate gc.toNat gr) (blk k15 (rwC sr gc.toNat gc.toNat) 33 :: (X ++ [blk k13 #[.int .i64 gc, .int .i64 gk, .int .i64 gr] 25])) := by
    obtain ⟨g1, g2, h1, h2, h3, h4⟩ := hRX
    exact ⟨g1, g2, h1, h2, List.mem_cons_of_mem _ (List.mem_append_left _ h3), List.mem_cons_of_mem _ (List.mem_append_left _ h4)⟩
  have H10 : Ow (dsK ds) [] w w10 (blk k14 (rwC s gc.toNat gc.toNat) 30 :: blk k15 (rwC sr gc.toNat gc.toNat) 33 :: (X ++ [blk k13 #[.int .i64 gc, .int .i64 gk, .int .i64 gr] 25])) := H10.perm (.swap _ _ _)
  have m13 : blk k13 #[.int .i64 gc, .int .i64 gk, .int .i64 gr] 25 ∈ (blk k15 (rwC sr gc.toNat gc.toNat) 33 :: (X ++ [blk k13 #[.int .i64 gc, .int .i64 gk, .int .i64 gr] 25])) := List.mem_cons_of_mem _ (List.mem_append_right _ (by repeat (first | exact List.Mem.head _ | refine List.Mem.tail _ ?_)))
  generalize blk k15 (rwC sr gc.toNat gc.toNat) 33 :: (X ++ [blk k13 #[.int .i64 gc, .int .i64 gk, .int .i64 gr] 25]) = Y at H10 hRX m13
  have hlb : (List.replicate gc.toNat gr).length = gc.toNat := List.length_replicate
  have cl : ∀ {h : Kd} {w' : World} {s' : RwS} {n : Nat}, Ow h [] w w' (blk k14 (rwC s' n gc.toNat) 30 :: Y) → ∀ i v, (rwC s' n gc.toNat)[i]? = some v → w'.cell? ⟨k14, i, none⟩ = some v := fun h' i v hv => h'.ld List.mem_cons_self hv
  have hRY : ∀ {h : Kd} {w' : World} {s' : RwS} {n : Nat} {ds' : List Od}, Ow h [] w w' (blk k14 (rwC s' n gc.toNat) 30 :: Y) → blks ds' = blks ds → ptrsAt w' s.pd (blks ds') ∧ intsL w' s.pb (List.replicate gc.toNat gr) := fun h' hb => by
    rw [hb]; exact hRX.at (T.drop h'.under)
  obtain ⟨p0, a0, hk0, _⟩ := hS.on 0 (by omega)
  obtain ⟨ad, had, hcd⟩ := (hRY H10 rfl).1.get (blks_get hk0)
  rw [Nat.zero_mul, add_zero] at hcd
  refine ⟨_, _, _, cl H10 3 _ rfl, ad, had, by omega, by omega, some ⟨p0, 0, none⟩, hcd, no rfl ?_⟩
  refine ⟨_, _, _, _, _, _, _, _, _, ⟨cl H10 0 _ rfl, cl H10 1 _ rfl, cl H10 2 _ rfl, cl H10 3 _ rfl, cl H10 4 _ rfl⟩, ?_⟩
  have hRW : ∀ {w' : World} {ds' : List Od}, Ow (dsK ds') [] w w' (blk k14 (rwC s gc.toNat gc.toNat) 30 :: Y) → blks ds' = blks ds → RwW s ds' (List.replicate gc.toNat gr) w' := fun h' hb => ⟨⟨_, _, _, h'⟩, (hRY h' hb).1, (hRY h' hb).2⟩
  have hMy := may16_spec (hRW H10 rfl) (by omega)
  rw [hl, hlb, decide_eq_true hS.may] at hMy
  refine hMy.mono fun e w11 ⟨he11, hx11⟩ => ⟨_, he11, no rfl ?_⟩
  refine (shown16_spec w11).mono fun e w12 ⟨he12, hx12⟩ => ⟨_, he12, no rfl ?_⟩
  have H12 := (H10.quiet hx11).quiet hx12
  clear he11 he12 hMy H10 hcd H8 H9 H6 H7 h5 h4 h3 h2 he6 he1
  refine Join.intro fun J hJ => ?_
  -- what is answered
  have hF : FewL ds 1000000 := hH.few _
  have e73 : rdE (readR s ds (List.replicate gc.toNat gr) row off) = if 0 ≤ row ∧ row < gr ∧ 0 ≤ off ∧ off < gk then 0 else 70 := by
    by_cases hin : 0 ≤ row ∧ row < gr ∧ 0 ≤ off ∧ off < gk
    · rw [if_pos hin, hH.read hS (by omega) (by omega)]; rfl
    · rw [if_neg hin]
      unfold readR
      rw [hS.at, if_pos (c := row < 0 ∨ _) (by omega), if_pos (by decide)]; rfl
  have e82 : (sectR s ds (List.replicate gc.toNat gr) row off role).2 = if (0 ≤ row ∧ row < gr ∧ 0 ≤ off ∧ off < gk) ∧ 0 ≤ role ∧ role < gc - 2 then 0 else 70 := by
    unfold sectR
    by_cases hin : 0 ≤ row ∧ row < gr ∧ 0 ≤ off ∧ off < gk
    · have h0 : ¬ (atE s ds (List.replicate gc.toNat gr) row off ≠ 0) := by rw [hS.at0 (by omega) (by omega)]; simp
      rw [if_neg h0]
      by_cases hro : role < 0 ∨ role ≥ s.c - 2
      · rw [if_pos hro, if_neg (by omega)]
      · rw [if_neg hro, if_pos (c := (_ ∧ _) ∧ _) (by omega), hH.sec hS (by omega) (by omega) (by omega), if_pos (by decide)]
    · have h0 : atE s ds (List.replicate gc.toNat gr) row off = 70 := by rw [hS.at, if_pos (by omega)]
      rw [h0, if_pos (by decide), if_neg (by omega)]
  have e90 : writeE s ds (List.replicate gc.toNat gr) row off role (fullB (ByteArray.mk #[97])) = if (0 ≤ row ∧ row < gr ∧ 0 ≤ off ∧ off < gk) ∧ 0 ≤ role ∧ role < gc then 0 else 70 := by
    by_cases hin : (0 ≤ row ∧ row < gr ∧ 0 ≤ off ∧ off < gk) ∧ 0 ≤ role ∧ role < gc
    · rw [if_pos hin]
      obtain ⟨_, _, _, _, _, h, _⟩ := hS.write (row := row) (off := off) (role := role) (by omega) (by omega) (by omega) (fullB_size (ByteArray.mk #[97]))
      exact h
    · rw [if_neg hin]
      unfold writeE
      rw [hS.at]
      by_cases hin2 : row < 0 ∨ row ≥ s.r ∨ off < 0 ∨ off ≥ s.k
      · rw [if_pos hin2, if_pos (by decide)]
      · rw [if_neg hin2, if_neg (by decide), if_pos (by omega)]
  have go : ∀ b16 : Bool, (b16 = true ↔ 0 ≤ row ∧ row < gr ∧ 0 ≤ off ∧ off < gk) → J [.bool b16] w12 := by
    intro b16 hb16
    refine hJ _ _ ⟨_, rfl, _, _, _, _, _, _, _, _, _, ⟨cl H12 0 _ rfl, cl H12 1 _ rfl, cl H12 2 _ rfl, cl H12 3 _ rfl, cl H12 4 _ rfl⟩, ?_⟩
    have hR := read16_spec (hRW H12 rfl) (by omega) hF row off
    rw [hl, hlb] at hR
    refine hR.mono fun e w13 ⟨v, he, hv⟩ => ?_
    obtain ⟨p1, l1, c1, p2, l2, c2, rfl, hx13⟩ := rd_any hv
    have H13 := H12.quiet hx13
    refine ⟨_, _, _, _, _, _, _, he, _, _, _, _, _, _, _, _, _, ⟨cl H13 0 _ rfl, cl H13 1 _ rfl, cl H13 2 _ rfl, cl H13 3 _ rfl, cl H13 4 _ rfl⟩, ?_⟩
    have hSe := set16_spec (hRW H13 rfl) (by omega) hF row off role
    rw [hl, hlb] at hSe
    refine hSe.mono fun e w14 ⟨he14, hx14⟩ => ⟨_, _, he14, ?_⟩
    have H14 := (H13.quiet hx14).drew
    refine ⟨fun w' => ∃ ds' : List Od, blks ds' = blks ds ∧ Ow (dsK ds') [] w w' (blk k14 (rwC s gc.toNat gc.toNat) 30 :: Y), ⟨ds, rfl, H14⟩, ?_⟩
    refine ⟨_, _, _, _, _, _, _, _, _, fun w' ⟨ds', _, h'⟩ => ⟨cl h' 0 _ rfl, cl h' 1 _ rfl, cl h' 2 _ rfl, cl h' 3 _ rfl, cl h' 4 _ rfl⟩, ?_⟩
    refine (full16_spec _ (by decide) _).mono fun e w15 ⟨he15, hx15⟩ => ⟨_, he15, ⟨ds, rfl, H14.quiet hx15⟩, ?_⟩
    have H15 := H14.quiet hx15
    have hWr := write16_spec H15 (hRY H15 rfl).1 (hRY H15 rfl).2 (by omega) hF row off role (fullB (ByteArray.mk #[97]))
    rw [hl, hlb] at hWr
    refine hWr.mono fun e w16 ⟨he16, H16⟩ => ⟨_, he16, ⟨_, writeD_blks .., H16⟩, ?_⟩
    have hlw := writeD_len s ds (List.replicate gc.toNat gr) row off role (fullB (ByteArray.mk #[97]))
    have hbw := writeD_blks s ds (List.replicate gc.toNat gr) row off role (fullB (ByteArray.mk #[97]))
    have hfw : FewL (writeD s ds (List.replicate gc.toNat gr) row off role (fullB (ByteArray.mk #[97]))) 1000000 := writeD_few (hH.few 999999)
    generalize writeD s ds (List.replicate gc.toNat gr) row off role (fullB (ByteArray.mk #[97])) = dw at H16 hlw hbw hfw
    refine Join.intro fun J1 hJ1 => ?_
    have hJ1 : J1 [] w16 := hJ1 _ _ ⟨rfl, by
      refine ⟨_, _, _, cl H16 3 _ rfl, ?_⟩
      refine ⟨_, _, _, _, drives_from (by omega) (by omega) w16, ?_⟩
      have hcap : gc.toNat ≤ s.cd := by
        obtain ⟨g1, g2, q1, q2, q3, q4⟩ := hRX
        have := (H16.under.says (List.mem_cons_of_mem _ q3)).2.1
        omega
      refine H16.st (c' := rwC ⟨s.c, s.k, s.r, cutP s.pd s.cd 1, s.cd - 1, s.pb, s.cb⟩ (gc.toNat - 1) gc.toNat) .head (by simp [rwC]) (by rfl) rfl fun w17 H17 => ?_
      have H17 := Ow.tail H17
      have hld : (dw.drop 1).length = gc.toNat - 1 := by rw [List.length_drop, hlw, hl]
      generalize hs' : (⟨s.c, s.k, s.r, cutP s.pd s.cd 1, s.cd - 1, s.pb, s.cb⟩ : RwS) = s' at H17
      have hbd : blks (dw.drop 1) = (blks ds).drop 1 := by rw [← hbw]; unfold blks; rw [List.map_drop]
      have hpd : ∀ {w'}, ptrsAt w' s.pd (blks ds) ∧ intsL w' s.pb (List.replicate gc.toNat gr) → ptrsAt w' s'.pd (blks (dw.drop 1)) ∧ intsL w' s'.pb (List.replicate gc.toNat gr) := fun h => by
        rw [hbd, ← hs']
        exact ⟨h.1.drop (by rw [blks_len]; omega), h.2⟩
      have hno : ¬ RMay s' (dw.drop 1) (List.replicate gc.toNat gr) := fun h => by
        have h1 := h.2.1
        rw [hld, ← hs'] at h1
        have : (s.c : Int) = gc := ec
        have h1 : ((gc.toNat - 1 : Nat) : Int) = s.c := h1
        omega
      have ha1 : ∀ r o, atE s' (dw.drop 1) (List.replicate gc.toNat gr) r o = 1 := fun r o => by unfold atE; rw [if_neg hno]
      have hfd : FewL (dw.drop 1) 1000000 := fun q a hm => hfw q a (List.mem_of_mem_drop hm)
      have hW' : ∀ {w'}, Ow (dsK (dw.drop 1)) [] w w' (blk k14 (rwC s' (gc.toNat - 1) gc.toNat) 30 :: Y) → RwW s' (dw.drop 1) (List.replicate gc.toNat gr) w' := fun h' => by
        have := hpd (hRY (ds' := ds) h' rfl)
        exact ⟨⟨_, _, _, h'⟩, this.1, this.2⟩
      refine ⟨_, _, _, _, _, _, _, _, _, ⟨cl H17 0 _ rfl, cl H17 1 _ rfl, cl H17 2 _ rfl, cl H17 3 _ rfl, cl H17 4 _ rfl⟩, ?_⟩
      have hR := read16_spec (hW' H17) (by omega) hfd 0 0
      rw [hld, hlb] at hR
      refine hR.mono fun e w18 ⟨v, he, hv⟩ => ?_
      have hr1 : readR s' (dw.drop 1) (List.replicate gc.toNat gr) 0 0 = .error 1 := by unfold readR; rw [ha1, if_pos (by decide)]
      rw [hr1] at hv
      obtain ⟨rfl, hx18⟩ := hv
      have H18 := H17.quiet hx18
      refine ⟨_, _, _, _, _, _, _, he, _, _, _, _, _, _, _, _, _, ⟨cl H18 0 _ rfl, cl H18 1 _ rfl, cl H18 2 _ rfl, cl H18 3 _ rfl, cl H18 4 _ rfl⟩, ?_⟩
      have hL := lost16_spec (hW' H18) (by omega) 0
      rw [hld, hlb] at hL
      refine hL.mono fun e w19 ⟨v, he, hv⟩ => ?_
      have hr2 : lostR s' (dw.drop 1) (List.replicate gc.toNat gr) 0 = .error 1 := by unfold lostR; rw [ha1, if_pos (by decide)]
      rw [hr2] at hv
      obtain ⟨rfl, hx19⟩ := hv
      have H19 := (H18.quiet hx19).drew
      refine ⟨_, _, _, _, he, fun w' => Ow (dsK (dw.drop 1)) [] w w' (blk k14 (rwC s' (gc.toNat - 1) gc.toNat) 30 :: Y), H19, yes rfl (yes rfl ?_)⟩
      refine ⟨_, _, _, _, _, _, _, _, _, fun w' h' => ⟨cl h' 0 _ rfl, cl h' 1 _ rfl, cl h' 2 _ rfl, cl h' 3 _ rfl, cl h' 4 _ rfl⟩, ?_⟩
      have hFl := flush16_spec H19 (s := s') (bu := List.replicate gc.toNat gr) (fun w' h' => hpd (hRX.at (T.drop h'))) (by omega) hfd
      rw [hld, hlb, if_neg hno, if_neg hno] at hFl
      refine hFl.mono fun e w20 ⟨he20, H20⟩ => ⟨_, he20, H20, yes rfl ?_⟩
      refine ⟨_, _, _, _, _, _, _, _, _, fun w' h' => ⟨cl h' 0 _ rfl, cl h' 1 _ rfl, cl h' 2 _ rfl, cl h' 3 _ rfl, cl h' 4 _ rfl⟩, ?_⟩
      refine (full16_spec _ (by decide) _).mono fun e w21 ⟨he21, hx21⟩ => ⟨_, he21, H20.quiet hx21, ?_⟩
      have H21 := H20.quiet hx21
      have hpp := hpd (hRY (ds' := ds) H21 rfl)
      have hWr := write16_spec H21 hpp.1 hpp.2 (by omega) hfd 0 0 0 (fullB (ByteArray.mk #[]))
      have hw1 : writeE s' (dw.drop 1) (List.replicate gc.toNat gr) 0 0 0 (fullB (ByteArray.mk #[])) = 1 := by unfold writeE; rw [ha1, if_pos (by decide)]
      have hw2 : writeD s' (dw.drop 1) (List.replicate gc.toNat gr) 0 0 0 (fullB (ByteArray.mk #[])) = dw.drop 1 := by unfold writeD; rw [ha1, if_pos (by decide)]
      rw [hld, hlb, hw1, hw2] at hWr
      refine hWr.mono fun e w22 ⟨he22, H22⟩ => ⟨_, he22, H22, yes rfl ?_⟩
      refine ⟨_, _, _, _, _, _, _, _, _, fun w' h' => ⟨cl h' 0 _ rfl, cl h' 1 _ rfl, cl h' 2 _ rfl, cl h' 3 _ rfl, cl h' 4 _ rfl⟩, ?_⟩
      have hMy := may16_spec (hW' H22) (by omega)
      rw [hld, hlb, decide_eq_false hno] at hMy
      exact hMy.mono fun e w23 ⟨he23, hx23⟩ => ⟨_, he23, H22.quiet hx23, rfl, (H22.quiet hx23).ext⟩⟩
    have hw2 : IntKind.i64.wrap (gc - 2) = gc - 2 := wrap64 _ (by omega) (by omega)
    rw [e73, e82, e90]
    by_cases hin : 0 ≤ row ∧ row < gr ∧ 0 ≤ off ∧ off < gk
    · obtain rfl : b16 = true := hb16.2 hin
      rcases (by omega : role < 0 ∨ (0 ≤ role ∧ role < gc - 2) ∨ (gc - 2 ≤ role ∧ role < gc) ∨ gc ≤ role) with h | h | h | h
      · rw [if_pos hin, if_neg (by omega), if_neg (by omega)]
        repeat' (first | exact hJ1 | exact absurd hh (by omega) | refine no rfl ?_ | refine yes rfl ?_ | refine ⟨dec_t fun hh => ?_, dec_f fun hh => ?_⟩ | refine ⟨_, H16.ld (b := k13) (List.mem_cons_of_mem _ m13) rfl, ?_⟩ | rw [hw2] | (rw [decide_eq_true (p := role < gc - 2) (by omega)]) | (rw [decide_eq_false (p := role < gc - 2) (by omega)]) | (rw [decide_eq_true (p := role < gc) (by omega)]) | (rw [decide_eq_false (p := role < gc) (by omega)]))
      · rw [if_pos hin, if_pos (by omega), if_pos (by omega)]
        repeat' (first | exact hJ1 | exact absurd hh (by omega) | refine no rfl ?_ | refine yes rfl ?_ | refine ⟨dec_t fun hh => ?_, dec_f fun hh => ?_⟩ | refine ⟨_, H16.ld (b := k13) (List.mem_cons_of_mem _ m13) rfl, ?_⟩ | rw [hw2] | (rw [decide_eq_true (p := role < gc - 2) (by omega)]) | (rw [decide_eq_false (p := role < gc - 2) (by omega)]) | (rw [decide_eq_true (p := role < gc) (by omega)]) | (rw [decide_eq_false (p := role < gc) (by omega)]))
      · rw [if_pos hin, if_neg (by omega), if_pos (by omega)]
        repeat' (first | exact hJ1 | exact absurd hh (by omega) | refine no rfl ?_ | refine yes rfl ?_ | refine ⟨dec_t fun hh => ?_, dec_f fun hh => ?_⟩ | refine ⟨_, H16.ld (b := k13) (List.mem_cons_of_mem _ m13) rfl, ?_⟩ | rw [hw2] | (rw [decide_eq_true (p := role < gc - 2) (by omega)]) | (rw [decide_eq_false (p := role < gc - 2) (by omega)]) | (rw [decide_eq_true (p := role < gc) (by omega)]) | (rw [decide_eq_false (p := role < gc) (by omega)]))
      · rw [if_pos hin, if_neg (by omega), if_neg (by omega)]
        repeat' (first | exact hJ1 | exact absurd hh (by omega) | refine no rfl ?_ | refine yes rfl ?_ | refine ⟨dec_t fun hh => ?_, dec_f fun hh => ?_⟩ | refine ⟨_, H16.ld (b := k13) (List.mem_cons_of_mem _ m13) rfl, ?_⟩ | rw [hw2] | (rw [decide_eq_true (p := role < gc - 2) (by omega)]) | (rw [decide_eq_false (p := role < gc - 2) (by omega)]) | (rw [decide_eq_true (p := role < gc) (by omega)]) | (rw [decide_eq_false (p := role < gc) (by omega)]))
    · obtain rfl : b16 = false := by cases b16 with
        | true => exact absurd (hb16.1 rfl) hin
        | false => rfl
      rw [if_neg hin, if_neg (by omega), if_neg (by omega)]
      repeat' (first | exact hJ1 | exact absurd hh (by omega) | refine no rfl ?_ | refine yes rfl ?_ | refine ⟨dec_t fun hh => ?_, dec_f fun hh => ?_⟩ | refine ⟨_, H16.ld (b := k13) (List.mem_cons_of_mem _ m13) rfl, ?_⟩ | rw [hw2] | (rw [decide_eq_true (p := role < gc - 2) (by omega)]) | (rw [decide_eq_false (p := role < gc - 2) (by omega)]) | (rw [decide_eq_true (p := role < gc) (by omega)]) | (rw [decide_eq_false (p := role < gc) (by omega)]))
  refine ⟨dec_t fun h1 => ⟨_, H12.ld (b := k13) (List.mem_cons_of_mem _ m13) rfl, dec_t fun h2 => ⟨dec_t fun h3 => ⟨_, H12.ld (b := k13) (List.mem_cons_of_mem _ m13) rfl, go _ ?_⟩, dec_f fun h3 => go _ ?_⟩, dec_f fun h2 => go _ ?_⟩, dec_f fun h1 => go _ ?_⟩
  · simp only [decide_eq_true_eq]; omega
  · simp only [Bool.false_eq_true, false_iff]; omega
  · simp only [Bool.false_eq_true, false_iff]; omega
  · simp only [Bool.false_eq_true, false_iff]; omega
end Go.Proofs.YtedbbdeeofdepaaGreat
end
section
/-! row: RowWrites. -/
namespace Go.Proofs.YtedbbdeeofdepaaGreat
open Go.Sh Go.RowKit
set_option linter.unusedVariables false
set_option linter.unusedSimpArgs false
set_option maxRecDepth 20000
set_option maxHeartbeats 1000000
theorem keepG_nil (k m : Nat) : keepG [] k m = 0 := by simp [keepG]
theorem crash_nil {a : AD} {N : Nat} (h : a.safe.length = N) (hd : a.dead = false) (hs : ∀ j, a.spoilt j = false) : (a.crash []).Hold N fun j => a.safe.getD j noB := by
  refine ⟨⟨hd, rfl, ?_⟩, fun _ => rfl, hs, fun j hj => ?_⟩
  · show (keptFrom _ _ 0 0 a.safe).length = N
    rw [keptFrom_len, h]
  · obtain ⟨k', hk⟩ := keptFrom_get (keepG []) a.pend noB a.safe 0 0 j (by omega)
    show (keptFrom (keepG []) a.pend 0 0 a.safe).getD j noB = _
    rw [hk, keepG_nil]
    split
    · rfl
    · rw [if_neg (by omega)]
theorem AD.Hold.crash0 {a : AD} {n : Nat} {f : Nat → ByteArray} (h : a.Hold n f) : (a.crash []).Hold n f := by
  have h1 := crash_nil h.on.len h.on.dead h.sp
  exact ⟨h1.on, h1.pend, h1.sp, fun j hj => by rw [h1.safe j hj, h.safe j hj]⟩
theorem AD.Hold.write0 {a : AD} {n : Nat} {f : Nat → ByteArray} (h : a.Hold n f) {i : Int} (hi : 0 ≤ i ∧ i < (n : Int)) {s : ByteArray} (hs : s.size = 64) : ((a.write i s).crash []).Hold n f := by
  have hp := h.on.put hi hs
  have hsafe : (a.write i s).safe = a.safe := by rw [AD.write_of hp]
  have h1 := crash_nil (a := a.write i s) (N := n) (by rw [hsafe]; exact h.on.len) (h.on.write i s).dead (fun j => by
    rw [AD.write_of hp]
    show (if j = i.toNat then false else a.spoilt j) = false
    split
    · rfl
    · exact h.sp j)
  exact ⟨h1.on, h1.pend, h1.sp, fun j hj => by rw [h1.safe j hj, hsafe, h.safe j hj]⟩
theorem AD.Hold.flush {a : AD} {n : Nat} {f : Nat → ByteArray} (h : a.Hold n f) : a.flush.Hold n f := by
  have h1 := h.on.flush1
  refine ⟨h.on.flush, fun j => ?_, fun j => ?_, fun j hj => ?_⟩
  · rw [AD.flush_of h1]; rfl
  · rw [AD.flush_of h1]; exact h.sp j
  · rw [(AD.flush_safe h1 (by rw [h.on.len]; exact hj)).1, AD.top_none (h.pend j), h.safe j hj]
/-- what is left of drives when they crash -/
def CrashTo (ds : List Od) (N : Nat) (f : Nat → Nat → ByteArray) : Prop := ∀ i, i < ds.length → ∃ p a, ds[i]? = some (some (p, a)) ∧ a.Few 1000000 ∧ (a.crash []).Hold N (f i)
theorem SetHold.crash {ds : List Od} {N : Nat} {f : Nat → Nat → ByteArray} (h : SetHold ds N f) : CrashTo ds N f := fun i hi => by
  obtain ⟨p, a, hk, ha⟩ := h i hi
  exact ⟨p, a, hk, ha.few _, ha.crash0⟩
theorem SetHold.flush {ds : List Od} {N : Nat} {f : Nat → Nat → ByteArray} (h : SetHold ds N f) : SetHold (ds.map flushO) N f := fun i hi => by
  rw [List.length_map] at hi
  obtain ⟨p, a, hk, ha⟩ := h i hi
  exact ⟨p, a.flush, by rw [List.getElem?_map, hk]; rfl, ha.flush⟩
theorem flush_blks (ds : List Od) : blks (ds.map flushO) = blks ds := by
  unfold blks
  have e1 : ∀ y : Od, odB (flushO y) = odB y := fun y => by cases y <;> rfl
  rw [List.map_map, show odB ∘ flushO = odB from funext e1]
/-- how the laws of row begin -/
theorem setup16 {a b d : Int} (ha : 0 ≤ a ∧ a ≤ 255) (hb : 0 ≤ b ∧ b ≤ 255) (hd : 0 ≤ d ∧ d ≤ 255) {w w1 : World} (hx : Ext w w1) {K : Nat → Nat → World → Prop}
    (hK : ∀ (gc gk gr : Int) (N : Nat) (s : RwS) (ds : List Od) (k1 k2 : Nat) (Y : List A) (w' : World), gc = 4 + a % 4 → gk = 1 + b % 3 → gr = 1 + d % 6 → OkG gc gk gr → (s.c = gc ∧ s.k = gk ∧ s.r = gr) → SetOn s ds (List.replicate gc.toNat gr) N → SetHold ds N (fun _ _ => zeroSec) → RwX s ds (List.replicate gc.toNat gr) Y → ds.length = gc.toNat →
      (∃ (g1 g2 : Nat) (Z : List A), s.pd = some ⟨g1, 0, none⟩ ∧ s.pb = some ⟨g2, 0, none⟩ ∧ Y.Perm (rowP 40 1 (some g1) gc.toNat s.cd (ptrsV (blks ds)) :: rowP 3 1 (some g2) gc.toNat s.cb (intsI (List.replicate gc.toNat gr)) :: Z) ∧ blk k1 #[.int .i64 gc, .int .i64 gk, .int .i64 gr] 25 ∈ Z) →
      blk k1 #[.int .i64 gc, .int .i64 gk, .int .i64 gr] 25 ∈ Y → Ow (dsK ds) [] w w' (blk k2 (rwC s gc.toNat gc.toNat) 30 :: Y) → K k1 k2 w') :
    Calls Tryz.prog 8 #[.int .u8 a, .int .u8 b, .int .u8 d] w1 fun e w1 => ∃ n31_0 : Int, ∃ n31_1 : Int, ∃ n31_2 : Int, e = .returned (.agg #[.int .i64 n31_0, .int .i64 n31_1, .int .i64 n31_2]) ∧
      Alloc #[.int .i64 0, .int .i64 0, .int .i64 0] 25 w1 fun k13 w2 =>
      St ⟨k13, 0, none⟩ (.int .i64 n31_0) w2 fun w3 =>
      St ⟨k13, 1, none⟩ (.int .i64 n31_1) w3 fun w4 =>
      St ⟨k13, 2, none⟩ (.int .i64 n31_2) w4 fun w5 =>
      ∃ n33_0 : Int, ∃ n33_1 : Int, ∃ n33_2 : Int, (w5.cell? ⟨k13, 0, none⟩ = some (.int .i64 n33_0) ∧ w5.cell? ⟨k13, 1, none⟩ = some (.int .i64 n33_1) ∧ w5.cell? ⟨k13, 2, none⟩ = some (.int .i64 n33_2)) ∧
      Calls Tryz.prog 9 #[.agg #[.int .i64 n33_0, .int .i64 n33_1, .int .i64 n33_2], .bool false] w5 fun e_1 w6 => ∃ n34_0_0 : Int, ∃ n34_0_1 : Int, ∃ n34_0_2 : Int, ∃ (p34_0_3 : Option Addr) (l34_0_3 c34_0_3 : Nat), ∃ (p34_0_4 : Option Addr) (l34_0_4 c34_0_4 : Nat), ∃ n34_1_0 : Int, ∃ n34_1_1 : Int, ∃ n34_1_2 : Int, ∃ (p34_1_3 : Option Addr) (l34_1_3 c34_1_3 : Nat), ∃ (p34_1_4 : Option Addr) (l34_1_4 c34_1_4 : Nat),
        e_1 = .returned (.tuple #[.agg #[.int .i64 n34_0_0, .int .i64 n34_0_1, .int .i64 n34_0_2, .slice p34_0_3 l34_0_3 c34_0_3, .slice p34_0_4 l34_0_4 c34_0_4], .agg #[.int .i64 n34_1_0, .int .i64 n34_1_1, .int .i64 n34_1_2, .slice p34_1_3 l34_1_3 c34_1_3, .slice p34_1_4 l34_1_4 c34_1_4]]) ∧
      Alloc #[.int .i64 0, .int .i64 0, .int .i64 0, .slice none 0 0, .slice none 0 0] 30 w6 fun k14 w7 =>
      Alloc #[.int .i64 0, .int .i64 0, .int .i64 0, .slice none 0 0, .slice none 0 0] 33 w7 fun k15 w8 =>
      St ⟨k14, 0, none⟩ (.int .i64 n34_0_0) w8 fun w9 => St ⟨k14, 1, none⟩ (.int .i64 n34_0_1) w9 fun w10 => St ⟨k14, 2, none⟩ (.int .i64 n34_0_2) w10 fun w11 => St ⟨k14, 3, none⟩ (.slice p34_0_3 l34_0_3 c34_0_3) w11 fun w12 => St ⟨k14, 4, none⟩ (.slice p34_0_4 l34_0_4 c34_0_4) w12 fun w13 =>
      St ⟨k15, 0, none⟩ (.int .i64 n34_1_0) w13 fun w14 => St ⟨k15, 1, none⟩ (.int .i64 n34_1_1) w14 fun w15 => St ⟨k15, 2, none⟩ (.int .i64 n34_1_2) w15 fun w16 => St ⟨k15, 3, none⟩ (.slice p34_1_3 l34_1_3 c34_1_3) w16 fun w17 => St ⟨k15, 4, none⟩ (.slice p34_1_4 l34_1_4 c34_1_4) w17 fun w18 => K k13 k14 w18 := by
  refine (geo16_spec ha hb hd w1).mono fun e w1 ⟨he1, hx1⟩ => ⟨_, _, _, he1, ?_⟩
  have hG : OkG (4 + a % 4) (1 + b % 3) (1 + d % 6) := by unfold OkG; omega
  have hcB : 1 ≤ 4 + a % 4 ∧ 4 + a % 4 ≤ 10 := by omega
  have hkB : 1 ≤ 1 + b % 3 ∧ 1 + b % 3 ≤ 100 := by omega
  have hrB : 1 ≤ 1 + d % 6 ∧ 1 + d % 6 ≤ 40 := by omega
  generalize e1 : 4 + a % 4 = gc at hG hcB
  generalize e2 : 1 + b % 3 = gk at hG hkB
  generalize e3 : 1 + d % 6 = gr at hG hrB
  refine Alloc.t ((T.nil w).quiet (hx.trans hx1)) fun k13 w2 h2 => St.t h2 .head (by simp) rfl rfl fun w3 h3 => St.t h3 .head (by simp) rfl rfl fun w4 h4 => St.t h4 .head (by simp) rfl rfl fun w5 h5 => ?_
  have h5 : T [] w w5 [blk k13 #[.int .i64 gc, .int .i64 gk, .int .i64 gr] 25] := h5
  refine ⟨_, _, _, ⟨h5.ld (b := k13) (by repeat (first | exact List.Mem.head _ | refine List.Mem.tail _ ?_)) rfl, h5.ld (b := k13) (by repeat (first | exact List.Mem.head _ | refine List.Mem.tail _ ?_)) rfl, h5.ld (b := k13) (by repeat (first | exact List.Mem.head _ | refine List.Mem.tail _ ?_)) rfl⟩, ?_⟩
  refine (pair16_spec hcB hkB hrB false w5).mono fun e w6 ⟨s, sr, ds, rs, X, hP, he6, H6⟩ => ⟨_, _, _, _, _, _, _, _, _, _, _, _, _, _, _, _, _, _, he6, ?_⟩
  have hpos : 0 ≤ gr * gk := Int.mul_nonneg (by omega) (by omega)
  obtain ⟨hS, hH, hRX, hl⟩ := hP.on hG (by show ((4 + gr * gk).toNat : Int) = _; omega)
  have H6 : Ow (dsK ds) [] w w6 (X ++ [blk k13 #[.int .i64 gc, .int .i64 gk, .int .i64 gr] 25]) := Ow.over H6.fst h5
  refine H6.alloc fun k14 w7 H7 => H7.alloc fun k15 w8 H8 => ?_
  refine Ow.st5 H8 (v3 := .slice s.pd gc.toNat s.cd) (v4 := .slice s.pb gc.toNat s.cb) (by repeat (first | exact Turn.head | apply Turn.tail)) rfl rfl rfl rfl rfl fun w9 H9 => ?_
  refine Ow.st5 H9 (v3 := .slice sr.pd gc.toNat sr.cd) (v4 := .slice sr.pb gc.toNat sr.cb) (by repeat (first | exact Turn.head | apply Turn.tail)) rfl rfl rfl rfl rfl fun w10 H10 => ?_
  have H10 : Ow (dsK ds) [] w w10 (blk k15 (rwC sr gc.toNat gc.toNat) 33 :: blk k14 (rwC s gc.toNat gc.toNat) 30 :: (X ++ [blk k13 #[.int .i64 gc, .int .i64 gk, .int .i64 gr] 25])) := H10
  have H10 : Ow (dsK ds) [] w w10 (blk k14 (rwC s gc.toNat gc.toNat) 30 :: blk k15 (rwC sr gc.toNat gc.toNat) 33 :: (X ++ [blk k13 #[.int .i64 gc, .int .i64 gk, .int .i64 gr] 25])) := H10.perm (.swap _ _ _)
  refine hK gc gk gr _ s ds k13 k14 _ w10 e1.symm e2.symm e3.symm hG hP.g hS hH ?_ hl ?_ (List.mem_cons_of_mem _ (List.mem_append_right _ (by repeat (first | exact List.Mem.head _ | refine List.Mem.tail _ ?_)))) H10
  · obtain ⟨g1, g2, h1, h2, h3, h4⟩ := hRX
    exact ⟨g1, g2, h1, h2, List.mem_cons_of_mem _ (List.mem_append_left _ h3), List.mem_cons_of_mem _ (List.mem_append_left _ h4)⟩
  · obtain ⟨a1, a2, a3, a4, q1, q2, q3, q4, rfl⟩ := hP.at1
    refine ⟨a1, a3, _, q1, q2, (Pick.perm (.tail .head)).trans (List.Perm.cons _ (Pick.perm (.tail (.tail .head)))), ?_⟩
    exact (by repeat (first | exact List.Mem.head _ | refine List.Mem.tail _ ?_))
theorem shown16_end {w w1 : World} (hx : Ext w w1) : Calls Tryz.prog 7 #[] w1 fun e w2 => ∃ b : Bool, e = .returned (.bool b) ∧ RetR w (.bool true) (.bool b) w2 :=
  (shown16_spec w1).mono fun e w2 ⟨he, h2⟩ => ⟨_, he, rfl, hx.trans h2⟩
theorem writes16_law {a b d n3 n4 n5 : Int} (ha : 0 ≤ a ∧ a ≤ 255) (hb : 0 ≤ b ∧ b ≤ 255) (hd : 0 ≤ d ∧ d ≤ 255) (h3 : 0 ≤ n3 ∧ n3 ≤ 255) (h4 : 0 ≤ n4 ∧ n4 ≤ 255) (h5 : 0 ≤ n5 ∧ n5 ≤ 255) (x : ByteArray) (fl : Bool) (w : World) :
    Ret Tryz.prog 4 #[.int .u8 a, .int .u8 b, .int .u8 d, .int .u8 n3, .int .u8 n4, .int .u8 n5, .string x, .bool fl] w (.bool true) := by
  refine ret_of (revetmentlaw16_RowWrites_calls ?_)
  unfold revetmentlaw16_RowWrites
  refine ⟨dec_t fun _ => shown16_end (.refl w), dec_f fun hx100 => ?_⟩
  refine (shown16_spec w).mono fun e w2 ⟨he2, hx2⟩ => ⟨_, he2, no rfl ?_⟩
  refine setup16 ha hb hd hx2 fun gc gk gr N s ds k1 k2 Y w3 e1 e2 e3 hG hgeo hS hH hRX hl _ m1 H3 => ?_
  obtain ⟨ec, ek, er⟩ := hgeo
  have hgB : (4 ≤ gc ∧ gc ≤ 10) ∧ (1 ≤ gk ∧ gk ≤ 4) ∧ (1 ≤ gr ∧ gr ≤ 256) := by unfold OkG at hG; omega
  have c1 : ∀ {h : Kd} {w' : World} {Z : List A}, Ow h [] w w' (Z ++ blk k2 (rwC s gc.toNat gc.toNat) 30 :: Y) → w'.cell? ⟨k1, 0, none⟩ = some (.int .i64 gc) ∧ w'.cell? ⟨k1, 1, none⟩ = some (.int .i64 gk) ∧ w'.cell? ⟨k1, 2, none⟩ = some (.int .i64 gr) := fun h' =>
    ⟨h'.ld (List.mem_append_right _ (List.mem_cons_of_mem _ m1)) rfl, h'.ld (List.mem_append_right _ (List.mem_cons_of_mem _ m1)) rfl, h'.ld (List.mem_append_right _ (List.mem_cons_of_mem _ m1)) rfl⟩
  have c2 : ∀ {h : Kd} {w' : World} {Z : List A}, Ow h [] w w' (Z ++ blk k2 (rwC s gc.toNat gc.toNat) 30 :: Y) → ∀ i v, (rwC s gc.toNat gc.toNat)[i]? = some v → w'.cell? ⟨k2, i, none⟩ = some v := fun h' i v hv => h'.ld (List.mem_append_right _ List.mem_cons_self) hv
  refine ⟨_, (c1 (Z := []) H3).2.2, by omega, _, (c1 (Z := []) H3).2.1, by omega, _, (c1 (Z := []) H3).1, by omega, ?_⟩
  have tm : ∀ {x n : Int}, 0 ≤ x ∧ x ≤ 255 → Int.tmod (IntKind.i64.wrap x) n = x % n := fun {x n} hx => by
    rw [wrap64 x (by omega) (by omega), Int.tmod_eq_emod_of_nonneg hx.1]
  rw [tm h3, tm h4, tm h5]
  have bR : 0 ≤ n3 % gr ∧ n3 % gr < gr := ⟨Int.emod_nonneg _ (by omega), Int.emod_lt_of_pos _ (by omega)⟩
  have bO : 0 ≤ n4 % gk ∧ n4 % gk < gk := ⟨Int.emod_nonneg _ (by omega), Int.emod_lt_of_pos _ (by omega)⟩
  have bK : 0 ≤ n5 % gc ∧ n5 % gc < gc := ⟨Int.emod_nonneg _ (by omega), Int.emod_lt_of_pos _ (by omega)⟩
  generalize n3 % gr = r at bR
  generalize n4 % gk = o at bO
  generalize n5 % gc = k at bK
  have hlb : (List.replicate gc.toNat gr).length = gc.toNat := List.length_replicate
  have hRY : ∀ {F : List Nat} {w0 w' : World} {Z : List A} {ds' : List Od}, T F w0 w' (Z ++ blk k2 (rwC s gc.toNat gc.toNat) 30 :: Y) → blks ds' = blks ds → ptrsAt w' s.pd (blks ds') ∧ intsL w' s.pb (List.replicate gc.toNat gr) := fun h' hb => by
    rw [hb]
    obtain ⟨g1, g2, q1, q2, q3, q4⟩ := hRX
    exact RwX.at (X := _) ⟨g1, g2, q1, q2, List.mem_append_right _ (List.mem_cons_of_mem _ q3), List.mem_append_right _ (List.mem_cons_of_mem _ q4)⟩ h'
  have hRW : ∀ {w' : World} {Z : List A} {ds' : List Od}, Ow (dsK ds') [] w w' (Z ++ blk k2 (rwC s gc.toNat gc.toNat) 30 :: Y) → blks ds' = blks ds → RwW s ds' (List.replicate gc.toNat gr) w' := fun h' hb => ⟨⟨_, _, _, h'⟩, (hRY h'.under hb).1, (hRY h'.under hb).2⟩
  have hxs : x.size ≤ 9000000000000000000 := by omega
  have hcol := colR_nat hS.ok (row := r) (role := k) (by omega) (by omega)
  have hsec := sectorG_in hS.ok (row := r) (off := o) (by omega) (by omega)
  have hsz := hS.size
  -- what is there at last
  refine Join.intro fun J hJ => ?_
  have hJ : ∀ (ds' : List Od) (w' : World), blks ds' = blks ds → CrashTo ds' N (fun i j => if i = (colR s r k).toNat ∧ j = (sectorG s.c s.k s.r r o).toNat ∧ fl = true then fullB x else zeroSec) → Ow (dsK ds') [] w w' (blk k2 (rwC s gc.toNat gc.toNat) 30 :: Y) → J [] w' := by
    intro ds' w' hb hC H
    refine hJ _ _ ⟨rfl, ?_⟩
    generalize hf : (fun i j => if i = (colR s r k).toNat ∧ j = (sectorG s.c s.k s.r r o).toNat ∧ fl = true then fullB x else zeroSec) = f at hC
    have hld : ∀ {l : List Od}, blks l = blks ds → l.length = gc.toNat := fun h => by have := congrArg List.length h; rw [blks_len, blks_len] at this; omega
    refine ⟨fun vs w' => ∃ (i : Nat) (dc : List Od), vs = [.int .i64 (i : Int)] ∧ i ≤ gc.toNat ∧ blks dc = blks ds ∧ CrashTo dc N f ∧ (∀ j, j < i → ∃ p a, dc[j]? = some (some (p, a)) ∧ a.Hold N (f j)) ∧ Ow (dsK dc) [] w w' (blk k2 (rwC s gc.toNat gc.toNat) 30 :: Y), fun vs _ => match vs with | [.int _ i] => (gc - i).toNat | _ => 0, ⟨0, ds', rfl, by omega, hb, hC, (fun j hj => by omega), H⟩, ?_⟩
    rintro vs w4 ⟨i, dc, rfl, hi, hbc, hCc, hHc, H4⟩
    refine ⟨_, rfl, _, (c1 (Z := []) H4).1, dec_t fun hlt => ?_, dec_f fun hge => ?_⟩
    · have hil : i < dc.length := by rw [hld hbc]; omega
      obtain ⟨p, ad, hk, hfew, hcr⟩ := hCc i hil
      obtain ⟨a0, ha0, hcell⟩ := (hRY (Z := []) H4.under hbc).1.get (blks_get hk)
      refine ⟨_, _, _, c2 (Z := []) H4 3 _ rfl, a0, ha0, by omega, by omega, some ⟨p, 0, none⟩, by rw [Int.toNat_natCast]; exact hcell, ?_⟩
      refine (Ow.onDrive H4 hk fun Z hZ => crash_a hZ hfew [] none 0 (by simp) (fun w1 _ => ⟨fun h => absurd rfl h, fun a ha => by cases ha⟩)).mono fun e w5 ⟨he5, H5⟩ => ⟨he5, ?_⟩
      refine ⟨⟨i + 1, _, by rw [wrap64 _ (by omega) (by omega)]; rfl, by omega, (blks_set (b := ad.crash []) hk).trans hbc, fun j hj => ?_, fun j hj => ?_, H5⟩, ?_⟩
      · rw [List.length_set] at hj
        by_cases e : i = j
        · subst e
          exact ⟨p, _, List.getElem?_set_self hj, hcr.few _, hcr.crash0⟩
        · rw [List.getElem?_set_ne e]; exact hCc j hj
      · by_cases e : i = j
        · subst e
          exact ⟨p, _, List.getElem?_set_self hil, hcr⟩
        · rw [List.getElem?_set_ne e]; exact hHc j (by omega)
      · show (gc - IntKind.i64.wrap ((i : Int) + 1)).toNat < (gc - (i : Int)).toNat
        rw [wrap64 _ (by omega) (by omega)]; omega
    obtain rfl : i = gc.toNat := by omega
    have hSH : SetHold dc N f := fun j hj => hHc j (by rw [hld hbc] at hj; exact hj)
    have hSO : SetOn s dc (List.replicate gc.toNat gr) N := hSH.on hS.ok (by rw [hld hbc]; omega) hS.bu hS.size
    clear hHc hCc hC
    refine ⟨fun vs w' => ∃ i : Nat, vs = [.int .i64 (i : Int)] ∧ (i : Int) ≤ gr ∧ Ow (dsK dc) [] w w' (blk k2 (rwC s gc.toNat gc.toNat) 30 :: Y), fun vs _ => match vs with | [.int _ i] => (gr - i).toNat | _ => 0, ⟨0, rfl, by omega, H4⟩, ?_⟩
    rintro vs w5 ⟨n24, rfl, hi24, H5⟩
    refine ⟨_, rfl, _, (c1 (Z := []) H5).2.2, dec_t fun hlt24 => ?_, dec_f fun hge24 => ⟨rfl, H5.ext⟩⟩
    refine ⟨fun vs w' => ∃ i : Nat, vs = [.int .i64 (i : Int)] ∧ (i : Int) ≤ gk ∧ Ow (dsK dc) [] w w' (blk k2 (rwC s gc.toNat gc.toNat) 30 :: Y), fun vs _ => match vs with | [.int _ i] => (gk - i).toNat | _ => 0, ⟨0, rfl, by omega, H5⟩, ?_⟩
    rintro vs w6 ⟨n25, rfl, hi25, H6⟩
    refine ⟨_, rfl, _, (c1 (Z := []) H6).2.1, dec_t fun hlt25 => ?_, dec_f fun hge25 => ⟨⟨n24 + 1, by rw [wrap64 _ (by omega) (by omega)]; rfl, by omega, H6⟩, ?_⟩⟩
    rotate_left
    · show (gr - IntKind.i64.wrap ((n24 : Int) + 1)).toNat < (gr - (n24 : Int)).toNat
      rw [wrap64 _ (by omega) (by omega)]; omega
    refine ⟨_, _, _, _, _, _, _, _, _, ⟨c2 (Z := []) H6 0 _ rfl, c2 (Z := []) H6 1 _ rfl, c2 (Z := []) H6 2 _ rfl, c2 (Z := []) H6 3 _ rfl, c2 (Z := []) H6 4 _ rfl⟩, ?_⟩
    have hR := read16_spec (hRW (Z := []) H6 hbc) (by rw [hld hbc]; omega) (hSH.few _) n24 n25
    rw [hld hbc, hlb, hSH.read hSO (by omega) (by omega)] at hR
    refine hR.mono fun e w7 ⟨v, he, g, cg, g', cg', hv, hT⟩ => ?_
    subst hv
    have hlX : ((List.range s.c.toNat).map fun i : Nat => (f (colR s n24 i).toNat (sectorG s.c s.k s.r n24 n25).toNat).data.toList).length = gc.toNat := by simp [ec]
    generalize hX : ((List.range s.c.toNat).map fun i : Nat => (f (colR s n24 i).toNat (sectorG s.c s.k s.r n24 n25).toNat).data.toList) = L at hT hlX he
    have H7 := Ow.new H6 hT
    refine ⟨_, _, _, _, _, _, _, he, no rfl (no rfl ⟨_, (c1 H7).1, bne_t fun hh => ?_, bne_f fun _ => ?_⟩)⟩
    · exact absurd (show ((L.length : Nat) : Int) = gc by omega) hh
    refine ⟨fun vs w' => ∃ i : Nat, vs = [.int .i64 (i : Int)] ∧ (i : Int) ≤ gc ∧ Ow (dsK dc) [] w w' ([rowP 9 1 g L.length cg (txts L), rowP 3 1 g' ([] : List Int).length cg' (intsI [])] ++ blk k2 (rwC s gc.toNat gc.toNat) 30 :: Y), fun vs _ => match vs with | [.int _ i] => (gc - i).toNat | _ => 0, ⟨0, rfl, by omega, H7⟩, ?_⟩
    rintro vs w8 ⟨n29, rfl, hi29, H8⟩
    refine ⟨_, rfl, _, (c1 H8).1, dec_t fun hlt29 => ?_, dec_f fun hge29 => ⟨⟨n25 + 1, by rw [wrap64 _ (by omega) (by omega)]; rfl, by omega, H8.dropX.dropX⟩, ?_⟩⟩
    rotate_left
    · show (gk - IntKind.i64.wrap ((n25 : Int) + 1)).toNat < (gk - (n25 : Int)).toNat
      rw [wrap64 _ (by omega) (by omega)]; omega
    refine (full16_spec _ (by decide) _).mono fun e w9 ⟨he9, hx9⟩ => ⟨_, he9, ?_⟩
    have H9 := H8.quiet hx9
    refine Join.intro fun J1 hJ1 => ?_
    -- what is wanted
    have hwant : ∀ (wd : ByteArray) (w' : World), wd = f (colR s n24 n29).toNat (sectorG s.c s.k s.r n24 n25).toNat → Ow (dsK dc) [] w w' ([rowP 9 1 g L.length cg (txts L), rowP 3 1 g' ([] : List Int).length cg' (intsI [])] ++ blk k2 (rwC s gc.toNat gc.toNat) 30 :: Y) → J1 [.string wd] w' := by
      intro wd w' hw H'
      have hs1 := (T.strs H'.under (g := g) (L := L) (n := L.length) (cap := cg) (by repeat (first | exact List.Mem.head _ | refine List.Mem.tail _ ?_))).1
      obtain ⟨a0, ha0, hcell⟩ := hs1.get (n := n29) (by omega)
      have hLn : strB (L.getD n29 []) = wd := by
        rw [hw, ← hX, List.getD_eq_getElem?_getD, List.getElem?_map, List.getElem?_range (by omega)]
        exact strB_list _
      rw [hLn] at hcell
      refine hJ1 _ _ ⟨_, rfl, a0, ha0, by omega, by omega, _, by rw [Int.toNat_natCast]; exact hcell, no (by simp) ⟨⟨n29 + 1, by rw [wrap64 _ (by omega) (by omega)]; rfl, by omega, H'⟩, ?_⟩⟩
      show (gc - IntKind.i64.wrap ((n29 : Int) + 1)).toNat < (gc - (n29 : Int)).toNat
      rw [wrap64 _ (by omega) (by omega)]; omega
    have hz : fullB (ByteArray.mk #[]) = zeroSec := by decide
    rw [hz]
    have hcol2 := colR_nat hS.ok (row := n24) (role := n29) (by omega) (by omega)
    have hsec2 := sectorG_in hS.ok (row := n24) (off := n25) (by omega) (by omega)
    have other : ¬ ((n24 : Int) = r ∧ (n25 : Int) = o ∧ (n29 : Int) = k ∧ fl = true) → zeroSec = f (colR s n24 n29).toNat (sectorG s.c s.k s.r n24 n25).toNat := fun hn => by
      rw [← hf]
      refine (if_neg fun hh => hn ?_).symm
      obtain ⟨q1, q2, q3⟩ := hh
      obtain ⟨q4, q5⟩ := sectorG_inj hS.ok (row := n24) (off := n25) (row' := r) (off' := o) (by omega) (by omega) (by omega) (by omega) (by omega)
      refine ⟨q4, q5, ?_, q3⟩
      rw [q4] at q1 hcol2
      exact colR_inj hS.ok (row := r) (by omega) (by omega) (by omega) (by omega)
    refine ⟨beq_t fun q1 => ⟨beq_t fun q2 => ⟨beq_t fun q3 => ⟨fun q4 => ?_, fun q4 => ?_⟩, beq_f fun q3 => ?_⟩, beq_f fun q2 => ?_⟩, beq_f fun q1 => ?_⟩
    · refine (full16_spec x hxs _).mono fun e w10 ⟨he10, hx10⟩ => ⟨_, he10, hwant _ _ ?_ (H9.quiet hx10)⟩
      rw [← hf, q1, q2, q3]
      exact (if_pos ⟨rfl, rfl, q4⟩).symm
    · exact hwant _ _ (other fun h => by rw [q4] at h; cases h.2.2.2) H9
    · exact hwant _ _ (other fun h => q3 h.2.2.1) H9
    · exact hwant _ _ (other fun h => q2 h.2.1) H9
    · exact hwant _ _ (other fun h => q1 h.1) H9
  refine ⟨fun w' => ∃ h, Ow h [] w w' (blk k2 (rwC s gc.toNat gc.toNat) 30 :: Y), ⟨_, H3.drew⟩, _, _, _, _, _, _, _, _, _, fun w' ⟨h, h'⟩ => ⟨c2 (Z := []) h' 0 _ rfl, c2 (Z := []) h' 1 _ rfl, c2 (Z := []) h' 2 _ rfl, c2 (Z := []) h' 3 _ rfl, c2 (Z := []) h' 4 _ rfl⟩, ?_⟩
  refine (full16_spec x hxs _).mono fun e w4 ⟨he4, hx4⟩ => ⟨_, he4, ⟨_, H3.drew.quiet hx4⟩, ?_⟩
  have H4 := H3.drew.quiet hx4
  have hF : FewL ds 1000000 := hH.few _
  have hWr := write16_spec H4 (hRY (Z := []) H4.under rfl).1 (hRY (Z := []) H4.under rfl).2 (by omega) hF r o k (fullB x)
  obtain ⟨p, ad, hk, hon, hput, hwE, hwD⟩ := hS.write (row := r) (off := o) (role := k) (by omega) (by omega) (by omega) (fullB_size x)
  rw [hl, hlb, hwE, hwD] at hWr
  refine hWr.mono fun e w5 ⟨he5, H5⟩ => ⟨_, he5, ⟨_, H5⟩, no rfl ?_⟩
  have hb5 := blks_set (b := ad.write (sectorG s.c s.k s.r r o) (fullB x)) hk
  have hlt : (colR s r k).toNat < ds.length := by have := hS.len; omega
  have hget : ∀ i, i < ds.length → ∃ q b, ds[i]? = some (some (q, b)) ∧ b.Hold N (fun _ => zeroSec) ∧ (ds.set (colR s r k).toNat (some (p, ad.write (sectorG s.c s.k s.r r o) (fullB x))))[i]? = some (some (if i = (colR s r k).toNat then (q, b.write (sectorG s.c s.k s.r r o) (fullB x)) else (q, b))) := fun i hi => by
    obtain ⟨q, b, hq, hb⟩ := hH i hi
    refine ⟨q, b, hq, hb, ?_⟩
    by_cases e : i = (colR s r k).toNat
    · subst e
      rw [hk] at hq; cases hq
      rw [if_pos rfl, List.getElem?_set_self hlt]
    · rw [if_neg e, List.getElem?_set_ne (Ne.symm e), hq]
  generalize ds.set (colR s r k).toNat (some (p, ad.write (sectorG s.c s.k s.r r o) (fullB x))) = dw at H5 hb5 hget
  have hlw : dw.length = gc.toNat := by have := congrArg List.length hb5; rw [blks_len, blks_len] at this; omega
  have hi0 : 0 ≤ sectorG s.c s.k s.r r o ∧ sectorG s.c s.k s.r r o < (N : Int) := by omega
  have hFw : FewL dw 1000000 := fun q a hm => by
    obtain ⟨i, hi, he⟩ := List.getElem_of_mem hm
    obtain ⟨q', b, _, hb, hg⟩ := hget i (by omega)
    rw [List.getElem?_eq_getElem hi, he] at hg
    split at hg
    · cases hg; exact hb.few_write _ _
    · cases hg; exact hb.few _
  cases fl with
  | true =>
    refine yes rfl ⟨_, _, _, _, _, _, _, _, _, fun w' ⟨h, h'⟩ => ⟨c2 (Z := []) h' 0 _ rfl, c2 (Z := []) h' 1 _ rfl, c2 (Z := []) h' 2 _ rfl, c2 (Z := []) h' 3 _ rfl, c2 (Z := []) h' 4 _ rfl⟩, ?_⟩
    have hOn : SetOn s dw (List.replicate gc.toNat gr) N := ⟨hS.ok, by rw [hlw]; omega, hS.bu, hS.size, fun i hi => by
      obtain ⟨q, b, _, hb, hg⟩ := hget i (by omega)
      split at hg
      · exact ⟨_, _, hg, hb.on.write _ _⟩
      · exact ⟨_, _, hg, hb.on⟩⟩
    have hFl := flush16_spec H5 (s := s) (bu := List.replicate gc.toNat gr) (fun w' h' => hRY (Z := []) h' hb5) (by omega) hFw
    have hno42 : dw.any offO = false := by
      rw [Bool.eq_false_iff]
      intro ht
      obtain ⟨y, hy, hs⟩ := List.any_eq_true.1 ht
      obtain ⟨i, hi, rfl⟩ := List.getElem_of_mem hy
      obtain ⟨q, b, hq, hb⟩ := hOn.on i hi
      rw [List.getElem?_eq_getElem hi] at hq
      rw [Option.some_inj] at hq
      rw [hq] at hs
      have : (b.flush1 == 42) = true := hs
      rw [hb.flush1] at this
      cases this
    rw [hlw, hlb, if_pos hOn.may, if_pos hOn.may, hno42] at hFl
    refine hFl.mono fun e w6 ⟨he6, H6⟩ => ⟨_, he6, ⟨_, H6⟩, no rfl (hJ _ _ ((flush_blks dw).trans hb5) ?_ H6)⟩
    refine SetHold.crash fun i hi => ?_
    rw [List.length_map] at hi
    obtain ⟨q, b, _, hb, hg⟩ := hget i (by omega)
    rw [List.getElem?_map, hg]
    by_cases e : i = (colR s r k).toNat
    · rw [if_pos e]
      refine ⟨q, _, rfl, ?_⟩
      have hsv := hb.save (i := (sectorG s.c s.k s.r r o).toNat) (by omega) (fullB_size x)
      rw [Int.toNat_of_nonneg hi0.1] at hsv
      exact ⟨hsv.on, hsv.pend, hsv.sp, fun j hj => by rw [hsv.safe j hj]; simp [e]⟩
    · rw [if_neg e]
      refine ⟨q, _, rfl, ?_⟩
      have := hb.flush
      exact ⟨this.on, this.pend, this.sp, fun j hj => (this.safe j hj).trans (if_neg (fun h => e h.1)).symm⟩
  | false =>
    refine no rfl (hJ _ _ hb5 (fun i hi => ?_) H5)
    obtain ⟨q, b, _, hb, hg⟩ := hget i (by omega)
    rw [hg]
    by_cases e : i = (colR s r k).toNat
    · rw [if_pos e]
      refine ⟨q, _, rfl, hb.few_write _ _, ?_⟩
      have := hb.write0 hi0 (fullB_size x)
      exact ⟨this.on, this.pend, this.sp, fun j hj => (this.safe j hj).trans (if_neg (fun h => by cases h.2.2)).symm⟩
    · rw [if_neg e]
      refine ⟨q, _, rfl, hb.few _, ?_⟩
      have := hb.crash0
      exact ⟨this.on, this.pend, this.sp, fun j hj => (this.safe j hj).trans (if_neg (fun h => by cases h.2.2)).symm⟩
end Go.Proofs.YtedbbdeeofdepaaGreat
end
section
/-! A row's end, of a call that makes no more than new memory. -/
namespace Go.Sh
open Go.RowKit Go.ChangeShapes Go.WideShapes
theorem Ext.kept {W W' : World} (h : Ext W W') (may : MemPlace → Prop) : W.keptBut W' may := by
  refine ⟨h.os, h.output, fun i hi => ?_⟩
  rw [h.heap i hi]
  cases hw : W.heap[i]? with
  | none => simp
  | some o => cases o <;> simp
theorem Ext.frozen {W W' : World} (h : Ext W W') {a : Addr} (ha : a.block < W.heap.size) : W'.frozen? a = W.frozen? a := by simp only [World.frozen?, h.heap _ ha]
theorem post_ext {P : Program} {H : Type} {enc : TypeId × Value → H} {f : Func} {s : ChangeSpec} {apart fresh handsOn again : Bool} {W W' : World} {args : Array Value} {v : Value} {ds gs : List (DataW H)} {before pa pv : List MemPlace}
    (hW : DataW.Whole enc P f.params.toList s.vars apart W args.toList ds gs before)
    (hres : ∀ (b : Nat) (sp : Nat → Bool) (hd : Bool), DataW.TrodAll enc P W' b sp hd f.resultTypes.toList (v.resultList f.resultTypes.size) (s.fn H (ds ++ gs)).results [])
    (hargs : ∀ sp : Nat → Bool, (∀ p ∈ before, sp p.block = true) → DataW.TrodAll enc P W' 0 sp true f.params.toList args.toList (s.fn H (ds ++ gs)).args pa)
    (hvars : ∀ sp : Nat → Bool, (∀ p ∈ before, sp p.block = true) → DataW.TrodVars enc P W' sp s.vars (s.fn H (ds ++ gs)).vars pv)
    (hps : before = pa ++ pv) (hx : Ext W W')
    (hok : ∀ (j : Nat) (t : TypeId) (r : Value), f.resultTypes[j]? = some t → (v.resultList f.resultTypes.size)[j]? = some r → Value.okWide P W' .any 0 t r) :
    s.post enc P f apart fresh handsOn again W args v W' := by
  have hlt : ∀ p ∈ before, p.block < W.heap.size := hW.lt
  have hold : ∀ p ∈ before, (fun b => decide (b < W.heap.size)) p.block = true := fun p hp => by simpa using hlt p hp
  refine ⟨ds, gs, before, [], pa, pv, hW, hres _ _ _, hargs _ hold, hvars _ hold, World.keptBut_mono (fun p hp => ⟨hp, ?_⟩) (hx.kept (· ∈ before)), fun _ => ?_⟩
  · rw [hps, List.mem_append] at hp
    exact Or.inr hp
  · obtain ⟨_, _, _, _, _, hz, hn⟩ := hW
    refine ⟨hok, _, _, ([] ++ pa) ++ pv, ⟨[] ++ pa, pv, trodAll_append (hargs _ (fun _ _ => rfl)) (hres _ _ _), hvars _ (fun _ _ => rfl), rfl, ?_, ?_⟩, ?_⟩
    · intro b off hp
      have hb : (MemPlace.cell b off) ∈ before := by rw [hps]; simpa using hp
      rw [hx.frozen (hlt _ hb)]
      exact hz b off hb
    · intro ha
      have := hn ha
      rw [hps] at this
      simpa using this
    · intro p hp _
      rw [hps]
      simpa using hp
theorem u8_of {a : Int} (h : (Lit.int .u8 a).wf = true) : 0 ≤ a ∧ a ≤ 255 := by
  simp [Lit.wf, IntKind.min, IntKind.max, IntKind.bits, IntKind.signed] at h
  omega
theorem u16_of {a : Int} (h : (Lit.int .u16 a).wf = true) : 0 ≤ a ∧ a ≤ 65535 := by
  simp [Lit.wf, IntKind.min, IntKind.max, IntKind.bits, IntKind.signed] at h
  omega
theorem i64_of {a : Int} (h : (Lit.int .i64 a).wf = true) : -9223372036854775808 ≤ a ∧ a ≤ 9223372036854775807 := by
  simp [Lit.wf, IntKind.min, IntKind.max, IntKind.bits, IntKind.signed] at h
  omega
end Go.Sh
end
section
/-! A law's row: what its arguments tell, and that they read as they did. -/
namespace Go.Sh
open Go.ChangeShapes Go.WideShapes Go.ChangeAt Go.RowKit
set_option linter.unusedVariables false
theorem Ext.same {W W' : World} (h : Ext W W') {p : MemPlace} (hp : p.block < W.heap.size) : W.sameAt W' p := by
  cases p with
  | cell b o => show W'.cell? ⟨b, o, none⟩ = W.cell? ⟨b, o, none⟩; unfold World.cell?; rw [h.heap b hp]
  | map b => show W'.heap[b]? = W.heap[b]?; exact h.heap b hp
theorem trodAll_carry {H : Type} {enc : TypeId × Value → H} {P : Program} {W W' : World} {sp : Nat → Bool} : ∀ {ts : List TypeId} {vs : List Value} {ds : List (DataW H)} {ps : List MemPlace}, DataW.TrodAll enc P W 0 sp true ts vs ds ps → (∀ p ∈ ps, W.sameAt W' p) → DataW.TrodAll enc P W' 0 sp true ts vs ds ps
  | [], [], [], _, h, _ => h
  | _ :: _, _ :: _, _ :: _, _, ⟨p, q, ⟨n, h1⟩, h2, e⟩, hs => ⟨p, q, ⟨n, DataW.trod_carry n _ _ _ h1 fun x hx => hs x (by rw [e]; exact List.mem_append_left _ hx)⟩, trodAll_carry h2 fun x hx => hs x (by rw [e]; exact List.mem_append_right _ hx), e⟩
theorem law_post {P : Program} {H : Type} {enc : TypeId × Value → H} {f : Func} {s : ChangeSpec} {apart fresh handsOn again : Bool} {W W' : World} {args : Array Value} {ds gs : List (DataW H)} {before : List MemPlace} {tb : TypeId}
    (hl : laidOutB P = true) (hm : mapsRowed P = true) (hz : ((List.range P.types.size).all fun t => match P.underlying t with | some (.slice e) => decide (0 < P.cellsOf e) | _ => true) = true) (htp : (f.params.toList.all fun t => decide (t < P.types.size)) = true)
    (hW : DataW.Whole enc P f.params.toList s.vars apart W args.toList ds gs before) (hv : s.vars = []) (hargs : (s.fn H (ds ++ gs)).args = ds) (hres : (s.fn H (ds ++ gs)).results = [.lit (.bool true)]) (hvars : (s.fn H (ds ++ gs)).vars = [])
    (hrt : f.resultTypes = #[tb]) (htb : P.underlying tb = some .bool) (hx : Ext W W') : s.post enc P f apart fresh handsOn again W args (.bool true) W' := by
  have hlt := hW.lt
  have hW' := hW
  obtain ⟨p, q, hA, hV, rfl, hfz, hnd⟩ := hW
  rw [hv] at hV
  obtain ⟨rfl, rfl⟩ := trodVars_none hV
  rw [List.append_nil] at hW' hlt
  have hT : ∀ t ∈ f.params.toList, t < P.types.size := fun t ht => by simpa using List.all_eq_true.1 htp t ht
  refine post_ext (pa := p) (pv := []) hW' (fun _ _ _ => ?_) (fun sp hsp => ?_) (fun sp _ => ?_) (by simp) hx ?_
  · rw [hres, hrt]
    exact trodAll_cons_mk (shut_bool htb _) trodAll_mk0
  · rw [hargs]
    exact DataW.TrodAll.respare (kids_rows hl hm) (slices_full_of P hz) hT (trodAll_carry hA fun x hx' => hx.same (hlt x hx')) hsp
  · rw [hvars, hv]; rfl
  · exact ok_one hrt rfl (okWide_bool_mk htb _)
section
variable {P : Program} {H : Type} {enc : TypeId × Value → H} {w : World} {t e : TypeId} {v : Value} {d : DataW H} {ps : List MemPlace} {r : Reach} {b0 : Nat}
theorem open_strs (ht : P.underlying t = some (.slice e)) (he : P.underlying e = some .string) (hc : P.cellsOf e = 1) (hval : Value.okWide P w r b0 t v) (hd : DataW.Trod enc P w 0 (fun _ => true) true t v d ps) :
    ∃ (p : Option Addr) (c : Nat) (l : List ByteArray), v = .slice p l.length c ∧ (l ≠ [] → ∃ a, p = some a) ∧ (∀ a, p = some a → ∀ j s, l[j]? = some s → w.cell? (a.add j) = some (.string s)) ∧ ∀ s ∈ l, s.size ≤ maxLen := by
  obtain ⟨a0, len, cap, rfl⟩ := okWide_slice ht hval
  obtain ⟨fuel, hf⟩ := hd
  rcases open_strings ht he hc hf with ⟨h0, -⟩ | ⟨a, len', cap', ss, h0, h1, h2, h3, h4, h5, h6, h7⟩
  · have : a0 = none ∧ len = 0 ∧ cap = 0 := by simpa [Value.cells] using h0
    obtain ⟨rfl, rfl, rfl⟩ := this
    exact ⟨none, 0, [], rfl, fun h => absurd rfl h, (fun a ha => by cases ha), fun s hs => by cases hs⟩
  · have : a0 = some a ∧ len = len' ∧ cap = cap' := by simpa [Value.cells] using h0
    obtain ⟨rfl, rfl, rfl⟩ := this
    simp only [if_true] at h4
    refine ⟨some a, cap, ss.take len, by rw [List.length_take]; congr 1; omega, fun _ => ⟨a, rfl⟩, fun a' ha' j s hs => ?_, fun s hs => h7 s (List.mem_of_mem_take hs)⟩
    cases ha'
    rw [List.getElem?_take] at hs
    split at hs
    · have hj := (List.getElem?_eq_some_iff.1 hs).1
      rw [h6 j hj, List.getD_eq_getElem?_getD, hs]; rfl
    · cases hs
theorem open_u8s (ht : P.underlying t = some (.slice e)) (he : P.underlying e = some (.int .u8)) (hc : P.cellsOf e = 1) (hval : Value.okWide P w r b0 t v) (hd : DataW.Trod enc P w 0 (fun _ => true) true t v d ps) :
    ∃ (p : Option Addr) (c : Nat) (l : List UInt8), v = .slice p l.length c ∧ (l ≠ [] → ∃ a, p = some a) ∧ (∀ a, p = some a → ∀ j (s : UInt8), l[j]? = some s → w.cell? (a.add j) = some (.int .u8 s.toNat)) := by
  obtain ⟨a0, len, cap, rfl⟩ := okWide_slice ht hval
  obtain ⟨fuel, hf⟩ := hd
  rcases open_ints ht he hc hf with ⟨h0, -⟩ | ⟨a, len', cap', ss, h0, h1, h2, h3, h4, h5, h6, h7⟩
  · have : a0 = none ∧ len = 0 ∧ cap = 0 := by simpa [Value.cells] using h0
    obtain ⟨rfl, rfl, rfl⟩ := this
    exact ⟨none, 0, [], rfl, fun h => absurd rfl h, (fun a ha => by cases ha)⟩
  · have : a0 = some a ∧ len = len' ∧ cap = cap' := by simpa [Value.cells] using h0
    obtain ⟨rfl, rfl, rfl⟩ := this
    simp only [if_true] at h4
    refine ⟨some a, cap, (ss.take len).map fun n => UInt8.ofNat n.toNat, by rw [List.length_map, List.length_take]; congr 1; omega, fun _ => ⟨a, rfl⟩, fun a' ha' j s hs => ?_⟩
    cases ha'
    rw [List.getElem?_map, List.getElem?_take] at hs
    split at hs
    · cases hz : ss[j]? with
      | none => rw [hz] at hs; cases hs
      | some z =>
        rw [hz] at hs
        simp only [Option.map_some, Option.some.injEq] at hs
        have hj := (List.getElem?_eq_some_iff.1 hz).1
        have hw := u8_of (h7 z (List.mem_of_getElem? hz))
        rw [h6 j hj, List.getD_eq_getElem?_getD, hz]
        have : ((UInt8.ofNat z.toNat).toNat : Int) = z := by simp; omega
        rw [← hs, this]; rfl
    · cases hs
end
end Go.Sh
namespace Go.Proofs.YtedbbdeeofdepaaGreat
theorem own : ownKnob Tryz.prog.godebug = none := by kernel_rfl
theorem rows_laid : laidOutB Tryz.prog = true := by kernel_rfl
theorem rows_maps : mapsRowed Tryz.prog = true := by kernel_rfl
theorem rows_full : ((List.range Tryz.prog.types.size).all fun t => match Tryz.prog.underlying t with | some (.slice e) => decide (0 < Tryz.prog.cellsOf e) | _ => true) = true := by kernel_rfl
end Go.Proofs.YtedbbdeeofdepaaGreat
end
section
/-! A law's row: bytes as numbers. -/
namespace Go.Proofs.YtedbbdeeofdepaaGreat
open Go.ChangeShapes Go.WideShapes Go.ChangeAt Go.RowKit Go.Sh
theorem u8_of {a : Int} (h : (Lit.int .u8 a).wf = true) : 0 ≤ a ∧ a < 256 := by
  simp [Lit.wf, IntKind.min, IntKind.max, IntKind.bits, IntKind.signed] at h
  omega
end Go.Proofs.YtedbbdeeofdepaaGreat
end
