import Derived.Test.YtdfkifgkccnaiaaGreatDoorReq
/-! refill: Fill, Make. -/
namespace Go.Proofs.YtdfkifgkccnaiaaGreatDoor
open Go.Sh Go.RowKit
set_option linter.unusedVariables false
set_option linter.unusedSimpArgs false
set_option maxRecDepth 20000
set_option maxHeartbeats 2000000
/-- the length of the last column that is not lost -/
def lastLen (L : List Txt) (l : List Int) : Nat → Nat
  | 0 => 0
  | i + 1 => if (i : Int) ∈ l then lastLen L l i else (L.getD i []).length
theorem lastLen_le {L : List Txt} (hS : Short L) (l : List Int) : ∀ i, lastLen L l i ≤ 1000000
  | 0 => by simp [lastLen]
  | i + 1 => by
    simp only [lastLen]
    split
    · exact lastLen_le hS l i
    · exact hS.get i
/-- lost columns made bytes 0 -/
def zerL (L : List Txt) (l : List Int) (z : Nat) : Nat → List Txt
  | 0 => L
  | i + 1 => (zerL L l z i).set (l.getD i 0).toNat (List.replicate z 0)
theorem zerL_len (L : List Txt) (l : List Int) (z : Nat) : ∀ i, (zerL L l z i).length = L.length
  | 0 => rfl
  | i + 1 => by simp only [zerL, List.length_set]; exact zerL_len L l z i
theorem set_short {L : List Txt} (hS : Short L) {x : Txt} (hx : x.length ≤ 1000000) (i : Nat) : Short (L.set i x) := fun y hy => by
  rcases List.mem_or_eq_of_mem_set hy with h | h
  · exact hS y h
  · rw [h]; exact hx
theorem zerL_short {L : List Txt} (hS : Short L) (l : List Int) {z : Nat} (hz : z ≤ 1000000) : ∀ i, Short (zerL L l z i)
  | 0 => hS
  | i + 1 => set_short (zerL_short hS l hz i) (by simpa using hz) _
theorem byPL_short {L : List Txt} (hS : Short L) (i : Nat) : Short (byPL L i) := set_short hS (by have := hS.get i; have := synP_len hS; rw [xorT_len]; omega) i
theorem byQL_short {L : List Txt} (hS : Short L) (i : Nat) : Short (byQL L i) := set_short hS (by have := hS.get i; have := synQ_len hS; rw [xorT_len, timesL_len]; omega) i
theorem byPL_len (L : List Txt) (i : Nat) : (byPL L i).length = L.length := List.length_set
theorem byQL_len (L : List Txt) (i : Nat) : (byQL L i).length = L.length := List.length_set
/-- what is filled, by the kinds -/
def fillK (a b : Int) (Z : List Txt) (i k : Nat) : List Txt :=
  if a = 1 ∧ b = 1 then bothL Z i k
  else if a = 1 ∧ b = 2 then parF true false (byQL Z i)
  else if a = 1 ∧ b = 3 then parF false true (byPL Z i)
  else if a = 1 ∧ b = 0 then byPL Z i
  else if a = 2 ∧ b = 3 then parF false true (parF true false Z)
  else if a = 3 ∧ b = 0 then parF false true Z
  else if a = 2 ∧ b = 0 then parF true false Z
  else Z
def kindA (n : Nat) (l : List Int) (j i : Nat) : Int := if j < i ∧ j < l.length then kindF n (l.getD j 0) else 0
def fillS (L : List Txt) (l : List Int) : List Txt := fillK (kindA (L.length - 2) l 0 l.length) (kindA (L.length - 2) l 1 l.length) (zerL L l (lastLen L l L.length) l.length) (l.getD 0 0).toNat (l.getD 1 0).toNat
/-- Fill -/
def fillF (L : List Txt) (lost : List Int) : List Txt := fillS L (srt lost)
theorem kindF_ne (n : Nat) (x : Int) : kindF n x ≠ 0 := by unfold kindF; split <;> (try split) <;> decide
theorem kindF_one {n : Nat} {x : Int} (h : kindF n x = 1) : x < n := by
  unfold kindF at h
  split at h
  · assumption
  · split at h <;> cases h
theorem fill_spec {L : List Txt} {lost : List Int} (hl : lost.length ≤ 100000) (hL : L.length ≤ 1000000) (hS : Short L) {p q : Option Addr} {c d : Nat} {w : World} (hp : strsL w p L) (hq : intsL w q lost) :
    Calls Tryz.prog 24 #[.slice p L.length c, .slice q lost.length d] w fun e w' => (OkM L lost ∧ lost.length ≤ 2 ∧ ∃ b cap, e = .returned (.tuple #[.slice (some ⟨b, 0, none⟩) L.length cap, .int .i64 0]) ∧ T [] w w' [rowP 9 1 (some b) L.length cap (txts (fillF L lost))]) ∨
      (∃ n : Int, n ≠ 0 ∧ e = .returned (.tuple #[.slice none 0 0, .int .i64 n]) ∧ Ext w w' ∧ (OkM L lost → 2 < lost.length ∧ n = 60) ∧ (¬ OkM L lost → n = 1)) := by
  refine (refill_Fill_calls (R := fun v w' => (OkM L lost ∧ lost.length ≤ 2 ∧ ∃ b cap, v = .tuple #[.slice (some ⟨b, 0, none⟩) L.length cap, .int .i64 0] ∧ T [] w w' [rowP 9 1 (some b) L.length cap (txts (fillF L lost))]) ∨
      (∃ n : Int, n ≠ 0 ∧ v = .tuple #[.slice none 0 0, .int .i64 n] ∧ Ext w w' ∧ (OkM L lost → 2 < lost.length ∧ n = 60) ∧ (¬ OkM L lost → n = 1))) ?_).mono fun e w' ⟨v, he, h⟩ => by
    rcases h with ⟨h1, h2, b, cap, hv, h3⟩ | ⟨n, h1, hv, h3⟩
    · exact .inl ⟨h1, h2, b, cap, by rw [he, hv], h3⟩
    · exact .inr ⟨n, h1, by rw [he, hv], h3⟩
  unfold refill_Fill
  refine (may_spec (by omega) hL hS hp hq).mono fun e w1 ⟨n, he, hx1, hok, hno⟩ => ⟨n, he, bne_t fun hn => .inr ⟨n, hn, rfl, hx1, fun hk => ?_, hno⟩, bne_f fun hn => ?_⟩
  · have := hok hk
    by_cases h : lost.length > 2
    · rw [if_pos h] at this; exact ⟨h, this⟩
    · rw [if_neg h] at this; exact absurd this hn
  have hk : OkM L lost := Classical.byContradiction fun h => by have := hno h; omega
  have h2 : lost.length ≤ 2 := by
    have := hok hk
    by_cases h : lost.length > 2
    · rw [if_pos h] at this; omega
    · omega
  have n4 := hk.n4; have n10 := hk.n10
  have h2l := h2
  refine (values_spec (l := lost) ((T.nil w).quiet hx1)).mono fun e w2 ⟨kv, he, hv2⟩ => ⟨_, he, ?_⟩
  refine (sorted_spec hl (fun w' hx => hq.ext hx) hv2).mono fun e w3 ⟨g, capl, he, h3⟩ => ⟨_, _, _, he, ?_⟩
  refine (clone_spec hL h3 hp).mono fun e w4 ⟨gr, cap, he, h4⟩ => ⟨_, _, _, he, ?_⟩
  obtain ⟨b, rfl⟩ : ∃ b, gr = some b := rowP.pos (h4.says List.mem_cons_self) (by omega)
  have hlen : (srt lost).length = lost.length := srt_len lost
  have hrng : ∀ x ∈ srt lost, 0 ≤ x ∧ x < (L.length : Int) := fun x hx => hk.rng x ((srt_mem lost x).1 hx)
  show Alloc _ _ _ _
  have hgoal : fillF L lost = fillS L (srt lost) := rfl
  rw [hgoal]
  rw [← hlen] at h3 h4 h2 ⊢
  generalize hls : srt lost = l at h3 h4 hrng h2 ⊢
  refine Alloc.t h4 fun k8 w5 h5 => ?_
  refine St.t h5 (by repeat (first | exact Turn.head | apply Turn.tail)) (by simp) (by rfl) rfl fun w6 h6 => ?_
  rw [show IntKind.i64.wrap ((L.length : Int) - 2) = ((L.length - 2 : Nat) : Int) by rw [wrap64 _ (by omega) (by omega)]; omega]
  refine St.t h6 (by repeat (first | exact Turn.head | apply Turn.tail)) (by simp) (by rfl) rfl fun w7 h7 => ?_
  have h7 : T [] w w7 (blk k8 #[.slice (some ⟨b, 0, none⟩) L.length cap, .int .i64 ((L.length - 2 : Nat) : Int)] 64 :: rowP 9 1 (some b) L.length cap (txts L) :: [rowP 3 1 g l.length capl (intsI l)]) := h7
  have hli : ∀ {w' : World} {Γ' : List A}, T [] w w' Γ' → rowP 3 1 g l.length capl (intsI l) ∈ Γ' → intsL w' (ptr g) l := fun h m => (T.ints h m).1
  -- the length of what is not lost
  refine ⟨fun vs w' => ∃ i : Nat, vs = [.int .i64 (lastLen L l i : Int), .int .i64 (i : Int)] ∧ i ≤ L.length ∧ T [] w w' (blk k8 #[.slice (some ⟨b, 0, none⟩) L.length cap, .int .i64 ((L.length - 2 : Nat) : Int)] 64 :: rowP 9 1 (some b) L.length cap (txts L) :: [rowP 3 1 g l.length capl (intsI l)]), fun vs _ => match vs with | [_, .int _ i] => (L.length - i).toNat | _ => 0, ⟨0, rfl, by omega, h7⟩, ?_⟩
  rintro vs w8 ⟨i, rfl, hi, h8⟩
  refine ⟨_, _, rfl, dec_t fun hlt => ?_, dec_f fun hge => ?_⟩
  · have hlt : i < L.length := by omega
    obtain ⟨a, ha, hc⟩ := (hp.ext h8.chg.ext).get hlt
    have hms : ((L.length : Int) - IntKind.i64.wrap ((i : Int) + 1)).toNat < ((L.length : Int) - (i : Int)).toNat := by rw [wrap64 _ (by omega) (by omega)]; omega
    have hnx : IntKind.i64.wrap ((i : Int) + 1) = ((i + 1 : Nat) : Int) := by rw [wrap64 _ (by omega) (by omega)]; omega
    refine ⟨a, ha, by omega, by omega, _, by rw [Int.toNat_natCast]; exact hc, ?_⟩
    refine (contains_spec (by omega) (i : Int) (hli h8 (by repeat (first | exact List.Mem.head _ | refine List.Mem.tail _ ?_)))).mono fun e w9 ⟨he, hx9⟩ => ⟨_, he, ?_, ?_⟩
    · intro hb
      have hm : (i : Int) ∉ l := of_decide_eq_false (nott hb)
      refine ⟨⟨i + 1, ?_, by omega, h8.quiet hx9⟩, hms⟩
      rw [hnx, strB_size]
      simp only [lastLen, if_neg hm]
    · intro hb
      have hm : (i : Int) ∈ l := of_decide_eq_true (notf hb)
      refine ⟨⟨i + 1, ?_, by omega, h8.quiet hx9⟩, hms⟩
      rw [hnx]
      simp only [lastLen, if_pos hm]
  have hie : i = L.length := by omega
  subst hie
  have hz := lastLen_le hS l L.length
  generalize hzz : lastLen L l L.length = z at hz
  -- the lost ones made 0
  refine ⟨fun vs w' => ∃ i : Nat, vs = [.int .i64 (i : Int)] ∧ i ≤ l.length ∧ T [] w w' (rowP 9 1 (some b) L.length cap (txts (zerL L l z i)) :: blk k8 #[.slice (some ⟨b, 0, none⟩) L.length cap, .int .i64 ((L.length - 2 : Nat) : Int)] 64 :: [rowP 3 1 g l.length capl (intsI l)]), fun vs _ => match vs with | [.int _ i] => (l.length - i).toNat | _ => 0, ⟨0, rfl, by omega, h8.swap (.swap _ _ _)⟩, ?_⟩
  rintro vs w10 ⟨i, rfl, hi, h10⟩
  refine ⟨_, rfl, dec_t fun hlt => ?_, dec_f fun hge => ?_⟩
  · have hlt : i < l.length := by omega
    obtain ⟨a, ha, hc⟩ := (hli h10 (by repeat (first | exact List.Mem.head _ | refine List.Mem.tail _ ?_))).get hlt
    have hgm : l.getD i 0 ∈ l := by simp [List.getD, hlt]
    have hr := hrng _ hgm
    refine ⟨a, ha, by omega, by omega, _, by rw [Int.toNat_natCast]; exact hc, ?_⟩
    refine ⟨fun w' => T [] w w' (rowP 9 1 (some b) L.length cap (txts (zerL L l z i)) :: blk k8 #[.slice (some ⟨b, 0, none⟩) L.length cap, .int .i64 ((L.length - 2 : Nat) : Int)] 64 :: [rowP 3 1 g l.length capl (intsI l)]), h10.drew, _, _, _, fun w' h => h.ld (b := k8) (by repeat (first | exact List.Mem.head _ | refine List.Mem.tail _ ?_)) rfl, ?_⟩
    refine (repeat_spec z hz _).mono fun e w11 ⟨he, hx11⟩ => ⟨_, he, h10.drew.quiet hx11, ⟨b, 0, none⟩, rfl, by omega, by omega, ?_⟩
    refine StS.t (h10.drew.quiet hx11) .head (by rw [zerL_len]; omega) fun w12 h12 => ⟨⟨i + 1, ?_, by omega, h12⟩, ?_⟩
    · rw [wrap64 _ (by omega) (by omega)]; rfl
    · show ((l.length : Int) - IntKind.i64.wrap ((i : Int) + 1)).toNat < ((l.length : Int) - (i : Int)).toNat
      rw [wrap64 _ (by omega) (by omega)]; omega
  have hie : i = l.length := by omega
  subst hie
  have hZl : (zerL L l z l.length).length = L.length := zerL_len L l z _
  have hZS : Short (zerL L l z l.length) := zerL_short hS l hz _
  have hfs : fillS L l = fillK (kindA (L.length - 2) l 0 l.length) (kindA (L.length - 2) l 1 l.length) (zerL L l z l.length) (l.getD 0 0).toNat (l.getD 1 0).toNat := by unfold fillS; rw [hzz]
  rw [hfs]
  generalize zerL L l z l.length = Z at h10 hZl hZS ⊢
  -- the kinds
  refine Alloc.t h10 fun k14 w13 h13 => ?_
  refine ⟨fun vs w' => ∃ i : Nat, vs = [.int .i64 (i : Int)] ∧ i ≤ l.length ∧ T [] w w' (blk k14 #[.int .i64 (kindA (L.length - 2) l 0 i), .int .i64 (kindA (L.length - 2) l 1 i)] 67 :: rowP 9 1 (some b) L.length cap (txts Z) :: blk k8 #[.slice (some ⟨b, 0, none⟩) L.length cap, .int .i64 ((L.length - 2 : Nat) : Int)] 64 :: [rowP 3 1 g l.length capl (intsI l)]), fun vs _ => match vs with | [.int _ i] => (l.length - i).toNat | _ => 0, ⟨0, rfl, by omega, by simpa [kindA] using h13⟩, ?_⟩
  rintro vs w14 ⟨i, rfl, hi, h14⟩
  refine ⟨_, rfl, dec_t fun hlt => ?_, dec_f fun hge => ?_⟩
  · have hlt : i < l.length := by omega
    obtain ⟨a, ha, hc⟩ := (hli h14 (by repeat (first | exact List.Mem.head _ | refine List.Mem.tail _ ?_))).get hlt
    refine ⟨a, ha, by omega, by omega, _, by rw [Int.toNat_natCast]; exact hc, _, _, _, _, ⟨h14.ld (b := k8) (by repeat (first | exact List.Mem.head _ | refine List.Mem.tail _ ?_)) rfl, h14.ld (b := k8) (i := 1) (by repeat (first | exact List.Mem.head _ | refine List.Mem.tail _ ?_)) rfl⟩, ?_⟩
    refine (kind_spec (some ⟨b, 0, none⟩) L.length cap (L.length - 2) (l.getD i 0) w14).mono fun e w15 ⟨he, hx15⟩ => ⟨_, he, by omega, by omega, ?_⟩
    rw [addr_add, Nat.zero_add, Nat.mul_one, Int.toNat_natCast]
    refine St.t (h14.quiet hx15) .head (by show i < 2; omega) rfl rfl fun w16 h16 => ⟨⟨i + 1, ?_, by omega, ?_⟩, ?_⟩
    · rw [wrap64 _ (by omega) (by omega)]; rfl
    · have hi2 : i = 0 ∨ i = 1 := by omega
      rcases hi2 with rfl | rfl
      · have e0 : kindA (L.length - 2) l 0 1 = kindF (L.length - 2) (l.getD 0 0) := by unfold kindA; rw [if_pos (by omega)]
        have e1 : kindA (L.length - 2) l 1 1 = kindA (L.length - 2) l 1 0 := by unfold kindA; rw [if_neg (by omega), if_neg (by omega)]
        rw [e0, e1]; exact h16
      · have e0 : kindA (L.length - 2) l 0 2 = kindA (L.length - 2) l 0 1 := by unfold kindA; rw [if_pos (by omega), if_pos (by omega)]
        have e1 : kindA (L.length - 2) l 1 2 = kindF (L.length - 2) (l.getD 1 0) := by unfold kindA; rw [if_pos (by omega)]
        rw [e0, e1]; exact h16
    · show ((l.length : Int) - IntKind.i64.wrap ((i : Int) + 1)).toNat < ((l.length : Int) - (i : Int)).toNat
      rw [wrap64 _ (by omega) (by omega)]; omega
  have hie : i = l.length := by omega
  subst hie
  generalize ha : kindA (L.length - 2) l 0 l.length = a at h14 ⊢
  generalize hb : kindA (L.length - 2) l 1 l.length = bb at h14 ⊢
  have ha1 : a = 1 → 0 < l.length ∧ 0 ≤ l.getD 0 0 ∧ l.getD 0 0 < (L.length : Int) := fun h => by
    unfold kindA at ha
    by_cases h' : 0 < l.length ∧ 0 < l.length
    · refine ⟨h'.1, hrng _ (by simp [List.getD, h'.1])⟩
    · rw [if_neg h'] at ha; omega
  have hb1 : bb ≠ 0 → 1 < l.length ∧ 0 ≤ l.getD 1 0 ∧ l.getD 1 0 < (L.length : Int) := fun h => by
    unfold kindA at hb
    by_cases h' : 1 < l.length ∧ 1 < l.length
    · refine ⟨h'.1, hrng _ (by simp [List.getD, h'.1])⟩
    · rw [if_neg h'] at hb; omega
  clear ha hb
  have i0 : 0 ≤ l.getD 0 0 → (((l.getD 0 0).toNat : Nat) : Int) = l.getD 0 0 := fun h => by omega
  have i1 : 0 ≤ l.getD 1 0 → (((l.getD 1 0).toNat : Nat) : Int) = l.getD 1 0 := fun h => by omega
  generalize hRR : fillK a bb Z (l.getD 0 0).toNat (l.getD 1 0).toNat = RR
  refine Join.intro fun J hJ => ?_
  have fin : ∀ (w' : World) {Γ : List A}, T [] w w' (rowP 9 1 (some b) L.length cap (txts RR) :: blk k8 #[.slice (some ⟨b, 0, none⟩) L.length cap, .int .i64 ((L.length - 2 : Nat) : Int)] 64 :: Γ) → J [] w' := fun w' Γ h => by
    refine hJ _ _ ⟨rfl, _, _, _, h.ld (b := k8) (by repeat (first | exact List.Mem.head _ | refine List.Mem.tail _ ?_)) rfl, .inl ⟨hk, h2, b, cap, rfl, ?_⟩⟩
    have : T [] w w' ([rowP 9 1 (some b) L.length cap (txts RR)] ++ (blk k8 #[.slice (some ⟨b, 0, none⟩) L.length cap, .int .i64 ((L.length - 2 : Nat) : Int)] 64 :: Γ)) := h
    exact T.dropAll (this.swap List.perm_append_comm)
  -- without the kinds
  have hN : T [] w w14 (rowP 9 1 (some b) L.length cap (txts Z) :: blk k8 #[.slice (some ⟨b, 0, none⟩) L.length cap, .int .i64 ((L.length - 2 : Nat) : Int)] 64 :: [rowP 3 1 g l.length capl (intsI l)]) := h14.drop
  have rdK : ∀ {w' : World}, w' = w14 → (w'.cell? ⟨k14, 0, none⟩ = some (.int .i64 a) ∧ w'.cell? ⟨k14, 1, none⟩ = some (.int .i64 bb)) := fun e => by subst e; exact ⟨h14.ld (b := k14) (by repeat (first | exact List.Mem.head _ | refine List.Mem.tail _ ?_)) rfl, h14.ld (b := k14) (i := 1) (by repeat (first | exact List.Mem.head _ | refine List.Mem.tail _ ?_)) rfl⟩
  have rdL : ∀ {w' : World} {Γ' : List A} (j : Nat), j < l.length → T [] w w' Γ' → rowP 3 1 g l.length capl (intsI l) ∈ Γ' → ∃ bl, g = some bl ∧ w'.cell? ⟨bl, j, none⟩ = some (.int .i64 (l.getD j 0)) := fun j hj h hm => by
    obtain ⟨a', ha', hc⟩ := (hli h hm).get hj
    cases g with
    | none => cases ha'
    | some bl =>
      cases ha'
      rw [addr_add, Nat.zero_add, Nat.mul_one] at hc
      exact ⟨bl, rfl, hc⟩
  have doPar : ∀ (pp qq : Bool) (Y : List Txt) (w' : World) {Γ0 : List A}, Y.length = L.length → Short Y → T [] w w' (rowP 9 1 (some b) L.length cap (txts Y) :: blk k8 #[.slice (some ⟨b, 0, none⟩) L.length cap, .int .i64 ((L.length - 2 : Nat) : Int)] 64 :: Γ0) →
      Calls Tryz.prog 44 #[.bool pp, .bool qq, .pointer (some ⟨k8, 0, none⟩)] w' fun e w2 => e = .returned (.tuple #[]) ∧ T [] w w2 (rowP 9 1 (some b) L.length cap (txts (parF pp qq Y)) :: blk k8 #[.slice (some ⟨b, 0, none⟩) L.length cap, .int .i64 ((L.length - 2 : Nat) : Int)] 64 :: Γ0) := fun pp qq Y w' Γ0 hY hYS h => by
    rw [← hY] at h ⊢
    exact par_spec pp qq hYS (by omega) (by omega) h
  have doP : ∀ (i : Nat) (w' : World) {Γ0 : List A}, i < L.length → T [] w w' (rowP 9 1 (some b) L.length cap (txts Z) :: Γ0) → Calls Tryz.prog 47 #[.agg #[.slice (some ⟨b, 0, none⟩) L.length cap, .int .i64 ((L.length - 2 : Nat) : Int)], .int .i64 (i : Int)] w' fun e w2 => e = .returned (.tuple #[]) ∧ T [] w w2 (rowP 9 1 (some b) L.length cap (txts (byPL Z i)) :: Γ0) := fun i w' Γ0 hi h => by
    rw [← hZl] at h hi ⊢
    exact byP_spec hZS (by omega) (by omega) _ hi h
  have doQ : ∀ (i : Nat) (w' : World) {Γ0 : List A}, i < L.length → T [] w w' (rowP 9 1 (some b) L.length cap (txts Z) :: Γ0) → Calls Tryz.prog 46 #[.agg #[.slice (some ⟨b, 0, none⟩) L.length cap, .int .i64 ((L.length - 2 : Nat) : Int)], .int .i64 (i : Int)] w' fun e w2 => e = .returned (.tuple #[]) ∧ T [] w w2 (rowP 9 1 (some b) L.length cap (txts (byQL Z i)) :: Γ0) := fun i w' Γ0 hi h => by
    rw [← hZl] at h hi ⊢
    exact byQ_spec hZS (by omega) (by omega) _ hi h
  have doB : ∀ (i k : Nat) (w' : World) {Γ0 : List A}, i < L.length → k < L.length → T [] w w' (rowP 9 1 (some b) L.length cap (txts Z) :: Γ0) → Calls Tryz.prog 45 #[.agg #[.slice (some ⟨b, 0, none⟩) L.length cap, .int .i64 ((L.length - 2 : Nat) : Int)], .int .i64 (i : Int), .int .i64 (k : Int)] w' fun e w2 => e = .returned (.tuple #[]) ∧ T [] w w2 (rowP 9 1 (some b) L.length cap (txts (bothL Z i k)) :: Γ0) := fun i k w' Γ0 hi hk' h => by
    rw [← hZl] at h hi hk' ⊢
    exact both_spec hZS (by omega) (by omega) _ hi hk' h
  refine ⟨a, bb, rdK rfl, decide (a = 1 ∧ bb = 1), w14, eq22 _ _ _ _ _ _ w14, dec_t fun h => ?_, dec_f fun c1 => ?_⟩
  · obtain ⟨hl0, h00, h01⟩ := ha1 h.1
    obtain ⟨hl1, h10', h11⟩ := hb1 (by omega)
    obtain ⟨bl, rfl, _⟩ := rdL 0 hl0 hN (by repeat (first | exact List.Mem.head _ | refine List.Mem.tail _ ?_))
    refine ⟨fun w' => T [] w w' (rowP 9 1 (some b) L.length cap (txts Z) :: blk k8 #[.slice (some ⟨b, 0, none⟩) L.length cap, .int .i64 ((L.length - 2 : Nat) : Int)] 64 :: [rowP 3 1 (some bl) l.length capl (intsI l)]), hN.drew, _, _, _, _, fun w' h => ⟨h.ld (b := k8) (by repeat (first | exact List.Mem.head _ | refine List.Mem.tail _ ?_)) rfl, h.ld (b := k8) (i := 1) (by repeat (first | exact List.Mem.head _ | refine List.Mem.tail _ ?_)) rfl⟩, ⟨bl, 0, none⟩, rfl, by omega, by omega, (((l.getD 0 0).toNat : Nat) : Int), fun w' h => ?_, ⟨bl, 0, none⟩, rfl, by omega, by omega, (((l.getD 1 0).toNat : Nat) : Int), fun w' h => ?_, ?_⟩
    · obtain ⟨bl', e, hc⟩ := rdL 0 hl0 h (by repeat (first | exact List.Mem.head _ | refine List.Mem.tail _ ?_))
      cases e; rw [i0 h00]; exact hc
    · obtain ⟨bl', e, hc⟩ := rdL 1 hl1 h (by repeat (first | exact List.Mem.head _ | refine List.Mem.tail _ ?_))
      cases e; rw [i1 h10', addr_add]; exact hc
    · refine (doB (l.getD 0 0).toNat (l.getD 1 0).toNat _ (by omega) (by omega) hN.drew).mono fun e w2 ⟨he, hz2⟩ => ⟨he, fin (Γ := [rowP 3 1 (some bl) l.length capl (intsI l)]) w2 ?_⟩
      rw [← hRR]; unfold fillK; rw [if_pos h]; exact hz2
  refine ⟨a, bb, rdK rfl, decide (a = 1 ∧ bb = 2), w14, eq22 _ _ _ _ _ _ w14, dec_t fun h => ?_, dec_f fun c2 => ?_⟩
  · obtain ⟨hl0, h00, h01⟩ := ha1 h.1
    obtain ⟨bl, rfl, _⟩ := rdL 0 hl0 hN (by repeat (first | exact List.Mem.head _ | refine List.Mem.tail _ ?_))
    refine ⟨fun w' => T [] w w' (rowP 9 1 (some b) L.length cap (txts Z) :: blk k8 #[.slice (some ⟨b, 0, none⟩) L.length cap, .int .i64 ((L.length - 2 : Nat) : Int)] 64 :: [rowP 3 1 (some bl) l.length capl (intsI l)]), hN.drew, _, _, _, _, fun w' h => ⟨h.ld (b := k8) (by repeat (first | exact List.Mem.head _ | refine List.Mem.tail _ ?_)) rfl, h.ld (b := k8) (i := 1) (by repeat (first | exact List.Mem.head _ | refine List.Mem.tail _ ?_)) rfl⟩, ⟨bl, 0, none⟩, rfl, by omega, by omega, (((l.getD 0 0).toNat : Nat) : Int), fun w' h => ?_, ?_⟩
    · obtain ⟨bl', e, hc⟩ := rdL 0 hl0 h (by repeat (first | exact List.Mem.head _ | refine List.Mem.tail _ ?_))
      cases e; rw [i0 h00]; exact hc
    · refine (doQ (l.getD 0 0).toNat _ (by omega) hN.drew).mono fun e w2 ⟨he, hz2⟩ => ⟨he, ?_⟩
      refine (doPar true false _ w2 (by rw [byQL_len]; exact hZl) (byQL_short hZS _) hz2).mono fun e w3 ⟨he, hz3⟩ => ⟨he, fin (Γ := [rowP 3 1 (some bl) l.length capl (intsI l)]) w3 ?_⟩
      rw [← hRR]; unfold fillK; rw [if_neg c1, if_pos h]; exact hz3
  refine ⟨a, bb, rdK rfl, decide (a = 1 ∧ bb = 3), w14, eq22 _ _ _ _ _ _ w14, dec_t fun h => ?_, dec_f fun c3 => ?_⟩
  · obtain ⟨hl0, h00, h01⟩ := ha1 h.1
    obtain ⟨bl, rfl, _⟩ := rdL 0 hl0 hN (by repeat (first | exact List.Mem.head _ | refine List.Mem.tail _ ?_))
    refine ⟨fun w' => T [] w w' (rowP 9 1 (some b) L.length cap (txts Z) :: blk k8 #[.slice (some ⟨b, 0, none⟩) L.length cap, .int .i64 ((L.length - 2 : Nat) : Int)] 64 :: [rowP 3 1 (some bl) l.length capl (intsI l)]), hN.drew, _, _, _, _, fun w' h => ⟨h.ld (b := k8) (by repeat (first | exact List.Mem.head _ | refine List.Mem.tail _ ?_)) rfl, h.ld (b := k8) (i := 1) (by repeat (first | exact List.Mem.head _ | refine List.Mem.tail _ ?_)) rfl⟩, ⟨bl, 0, none⟩, rfl, by omega, by omega, (((l.getD 0 0).toNat : Nat) : Int), fun w' h => ?_, ?_⟩
    · obtain ⟨bl', e, hc⟩ := rdL 0 hl0 h (by repeat (first | exact List.Mem.head _ | refine List.Mem.tail _ ?_))
      cases e; rw [i0 h00]; exact hc
    · refine (doP (l.getD 0 0).toNat _ (by omega) hN.drew).mono fun e w2 ⟨he, hz2⟩ => ⟨he, ?_⟩
      refine (doPar false true _ w2 (by rw [byPL_len]; exact hZl) (byPL_short hZS _) hz2).mono fun e w3 ⟨he, hz3⟩ => ⟨he, fin (Γ := [rowP 3 1 (some bl) l.length capl (intsI l)]) w3 ?_⟩
      rw [← hRR]; unfold fillK; rw [if_neg c1, if_neg c2, if_pos h]; exact hz3
  refine ⟨a, bb, rdK rfl, decide (a = 1 ∧ bb = 0), w14, eq22 _ _ _ _ _ _ w14, dec_t fun h => ?_, dec_f fun c4 => ?_⟩
  · obtain ⟨hl0, h00, h01⟩ := ha1 h.1
    obtain ⟨bl, rfl, _⟩ := rdL 0 hl0 hN (by repeat (first | exact List.Mem.head _ | refine List.Mem.tail _ ?_))
    refine ⟨fun w' => T [] w w' (rowP 9 1 (some b) L.length cap (txts Z) :: blk k8 #[.slice (some ⟨b, 0, none⟩) L.length cap, .int .i64 ((L.length - 2 : Nat) : Int)] 64 :: [rowP 3 1 (some bl) l.length capl (intsI l)]), hN.drew, _, _, _, _, fun w' h => ⟨h.ld (b := k8) (by repeat (first | exact List.Mem.head _ | refine List.Mem.tail _ ?_)) rfl, h.ld (b := k8) (i := 1) (by repeat (first | exact List.Mem.head _ | refine List.Mem.tail _ ?_)) rfl⟩, ⟨bl, 0, none⟩, rfl, by omega, by omega, (((l.getD 0 0).toNat : Nat) : Int), fun w' h => ?_, ?_⟩
    · obtain ⟨bl', e, hc⟩ := rdL 0 hl0 h (by repeat (first | exact List.Mem.head _ | refine List.Mem.tail _ ?_))
      cases e; rw [i0 h00]; exact hc
    · refine (doP (l.getD 0 0).toNat _ (by omega) hN.drew).mono fun e w2 ⟨he, hz2⟩ => ⟨he, fin (Γ := [rowP 3 1 (some bl) l.length capl (intsI l)]) w2 ?_⟩
      rw [← hRR]; unfold fillK; rw [if_neg c1, if_neg c2, if_neg c3, if_pos h]; exact hz2
  refine ⟨a, bb, rdK rfl, decide (a = 2 ∧ bb = 3), w14, eq22 _ _ _ _ _ _ w14, dec_t fun h => ?_, dec_f fun c5 => ?_⟩
  · refine (doPar true false Z w14 hZl hZS hN).mono fun e w2 ⟨he, hz2⟩ => ⟨he, ?_⟩
    refine (doPar false true _ w2 (by show (parP Z).length = _; rw [parP_len]; exact hZl) (parP_short hZS) hz2).mono fun e w3 ⟨he, hz3⟩ => ⟨he, fin (Γ := [rowP 3 1 g l.length capl (intsI l)]) w3 ?_⟩
    rw [← hRR]; unfold fillK; rw [if_neg c1, if_neg c2, if_neg c3, if_neg c4, if_pos h]; exact hz3
  refine ⟨a, bb, rdK rfl, decide (a = 3 ∧ bb = 0), w14, eq22 _ _ _ _ _ _ w14, dec_t fun h => ?_, dec_f fun c6 => ?_⟩
  · refine (doPar false true Z w14 hZl hZS hN).mono fun e w2 ⟨he, hz2⟩ => ⟨he, fin (Γ := [rowP 3 1 g l.length capl (intsI l)]) w2 ?_⟩
    rw [← hRR]; unfold fillK; rw [if_neg c1, if_neg c2, if_neg c3, if_neg c4, if_neg c5, if_pos h]; exact hz2
  refine ⟨a, bb, rdK rfl, decide (a = 2 ∧ bb = 0), w14, eq22 _ _ _ _ _ _ w14, dec_t fun h => ?_, dec_f fun c7 => ?_⟩
  · refine (doPar true false Z w14 hZl hZS hN).mono fun e w2 ⟨he, hz2⟩ => ⟨he, fin (Γ := [rowP 3 1 g l.length capl (intsI l)]) w2 ?_⟩
    rw [← hRR]; unfold fillK; rw [if_neg c1, if_neg c2, if_neg c3, if_neg c4, if_neg c5, if_neg c6, if_pos h]; exact hz2
  refine fin (Γ := [rowP 3 1 g l.length capl (intsI l)]) w14 ?_
  rw [← hRR]; unfold fillK; rw [if_neg c1, if_neg c2, if_neg c3, if_neg c4, if_neg c5, if_neg c6, if_neg c7]; exact hN
end Go.Proofs.YtdfkifgkccnaiaaGreatDoor
