import Derived.Test.YtdfkifgkccnaiaaGreatDoorRe1
/-! refill: kind, byP, byQ, both, parity. -/
namespace Go.Proofs.YtdfkifgkccnaiaaGreatDoor
open Go.Sh Go.RowKit
set_option linter.unusedVariables false
set_option linter.unusedSimpArgs false
set_option maxRecDepth 20000
set_option maxHeartbeats 1000000
theorem StS.t {F : List Nat} {w0 w : World} {Γ Δ : List A} {n cap b k : Nat} {L : List Txt} {x : Txt} {K : World → Prop} (hT : T F w0 w Γ) (hk : Pick (rowP 9 1 (some b) n cap (txts L)) Γ Δ) (hkl : k < L.length)
    (h : ∀ w', T F w0 w' (rowP 9 1 (some b) n cap (txts (L.set k x)) :: Δ) → K w') : St (Addr.add ⟨b, 0, none⟩ (k * 1)) (.string (strB x)) w K := by
  rw [addr_add, Nat.zero_add, Nat.mul_one]
  exact StRow.t hT hk (by rw [txts_len]; exact hkl) rfl fun w' h' => h w' (by rw [txts_set] at h'; exact h')
theorem T.rowS {F : List Nat} {w0 w : World} {Γ : List A} {b n cap : Nat} {L : List Txt} (hT : T F w0 w Γ) (hm : rowP 9 1 (some b) n cap (txts L) ∈ Γ) : strsL w (some ⟨b, 0, none⟩) L ∧ L.length = n ∧ n ≤ cap := T.strs hT hm
theorem strsL.cell {w : World} {b : Nat} {L : List Txt} (h : strsL w (some ⟨b, 0, none⟩) L) {i : Nat} (hi : i < L.length) : w.cell? (Addr.add ⟨b, 0, none⟩ (i * 1)) = some (.string (strB (L.getD i []))) := by
  obtain ⟨a, ha, hc⟩ := h.get hi
  cases ha
  exact hc
def kindF (n : Nat) (i : Int) : Int := if i < n then 1 else if i = n then 2 else 3
theorem kind_spec (p : Option Addr) (l c n : Nat) (i : Int) (w : World) : Ret Tryz.prog 43 #[.agg #[.slice p l c, .int .i64 (n : Int)], .int .i64 i] w (.int .i64 (kindF n i)) := by
  refine ret_of (refill_row_kind_calls ?_)
  unfold refill_row_kind
  refine Alloc.t (T.nil w) fun k w1 h1 => ⟨_, h1.ld (i := 1) List.mem_cons_self rfl, dec_t fun h => ⟨by unfold kindF; rw [if_pos h], h1.chg.ext⟩, dec_f fun h => ⟨_, h1.ld (i := 1) List.mem_cons_self rfl, beq_t fun e => ⟨by unfold kindF; rw [if_neg h, if_pos e], h1.chg.ext⟩, beq_f fun e => ⟨by unfold kindF; rw [if_neg h, if_neg e], h1.chg.ext⟩⟩⟩
def byPL (L : List Txt) (i : Nat) : List Txt := L.set i (xorT (L.getD i []) (synP L))
def byQL (L : List Txt) (i : Nat) : List Txt := L.set i (xorT (L.getD i []) (timesL (synQ L) (exI (0 - (i : Int)))))
def bothK (L : List Txt) (i k : Nat) : Txt := timesL (xorT (synQ L) (timesL (synP L) (exI i))) (invF (exI i ^^^ exI k))
def bothL (L : List Txt) (i k : Nat) : List Txt := (L.set k (bothK L i k)).set i (xorT (synP L) (bothK L i k))
section
variable {F : List Nat} {w0 w : World} {Γ : List A} {b cap : Nat} {L : List Txt}
theorem byP_spec (hS : Short L) (h2 : 2 ≤ L.length) (hn : L.length ≤ 200) (n : Int) {i : Nat} (hi : i < L.length) (hT : T F w0 w (rowP 9 1 (some b) L.length cap (txts L) :: Γ)) :
    Calls Tryz.prog 47 #[.agg #[.slice (some ⟨b, 0, none⟩) L.length cap, .int .i64 n], .int .i64 (i : Int)] w fun e w' => e = .returned (.tuple #[]) ∧ T F w0 w' (rowP 9 1 (some b) L.length cap (txts (byPL L i)) :: Γ) := by
  refine (refill_row_byP_calls (R := fun v w' => v = .tuple #[] ∧ T F w0 w' (rowP 9 1 (some b) L.length cap (txts (byPL L i)) :: Γ)) ?_).mono fun e w' ⟨v, he, hv, h⟩ => ⟨by rw [he, hv], h⟩
  unfold refill_row_byP
  refine Alloc.t hT fun k w1 h1 => ⟨_, _, _, h1.ld (b := k) (by repeat (first | exact List.Mem.head _ | refine List.Mem.tail _ ?_)) rfl, ?_⟩
  obtain ⟨hs, _, hcap⟩ := T.rowS h1 (b := b) (L := L) (by repeat (first | exact List.Mem.head _ | refine List.Mem.tail _ ?_))
  refine (sum_spec hS h2 hn hcap hs).mono fun e w2 ⟨he, hx2⟩ => ⟨_, _, he, ?_⟩
  have h2' := (h1.quiet hx2).drew
  refine ⟨fun w' => T F w0 w' (blk k #[.slice (some ⟨b, 0, none⟩) L.length cap, .int .i64 n] 64 :: rowP 9 1 (some b) L.length cap (txts L) :: Γ), h2', _, _, _, fun w' h => h.ld (b := k) (by repeat (first | exact List.Mem.head _ | refine List.Mem.tail _ ?_)) rfl, _, _, _, fun w' h => h.ld (b := k) (by repeat (first | exact List.Mem.head _ | refine List.Mem.tail _ ?_)) rfl, ⟨b, 0, none⟩, rfl, by omega, by omega, _, fun w' h => by rw [Int.toNat_natCast]; exact (T.rowS h (b := b) (L := L) (by repeat (first | exact List.Mem.head _ | refine List.Mem.tail _ ?_))).1.cell hi, ?_⟩
  have l1 := hS.get i
  have l2 := synP_len hS
  refine (xor_spec (strB (L.getD i [])) (strB (synP L)) (by rw [strB_size]; omega) (by rw [strB_size]; omega) _).mono fun e w3 ⟨he, hx3⟩ => ⟨_, he, h2'.quiet hx3, ⟨b, 0, none⟩, rfl, by omega, by omega, ?_⟩
  rw [Int.toNat_natCast]
  exact StS.t (h2'.quiet hx3) (.tail .head) hi fun w4 h4 => ⟨rfl, T.dropAt h4 (.tail .head)⟩
theorem byQ_spec (hS : Short L) (h2 : 2 ≤ L.length) (hn : L.length ≤ 200) (n : Int) {i : Nat} (hi : i < L.length) (hT : T F w0 w (rowP 9 1 (some b) L.length cap (txts L) :: Γ)) :
    Calls Tryz.prog 46 #[.agg #[.slice (some ⟨b, 0, none⟩) L.length cap, .int .i64 n], .int .i64 (i : Int)] w fun e w' => e = .returned (.tuple #[]) ∧ T F w0 w' (rowP 9 1 (some b) L.length cap (txts (byQL L i)) :: Γ) := by
  refine (refill_row_byQ_calls (R := fun v w' => v = .tuple #[] ∧ T F w0 w' (rowP 9 1 (some b) L.length cap (txts (byQL L i)) :: Γ)) ?_).mono fun e w' ⟨v, he, hv, h⟩ => ⟨by rw [he, hv], h⟩
  unfold refill_row_byQ
  refine Alloc.t hT fun k w1 h1 => ⟨_, _, _, h1.ld (b := k) (by repeat (first | exact List.Mem.head _ | refine List.Mem.tail _ ?_)) rfl, ?_⟩
  obtain ⟨hs, _, hcap⟩ := T.rowS h1 (b := b) (L := L) (by repeat (first | exact List.Mem.head _ | refine List.Mem.tail _ ?_))
  refine (sum_spec hS h2 hn hcap hs).mono fun e w2 ⟨he, hx2⟩ => ⟨_, _, he, ?_⟩
  have h2' := (h1.quiet hx2).drew
  refine ⟨fun w' => T F w0 w' (blk k #[.slice (some ⟨b, 0, none⟩) L.length cap, .int .i64 n] 64 :: rowP 9 1 (some b) L.length cap (txts L) :: Γ), h2', _, _, _, fun w' h => h.ld (b := k) (by repeat (first | exact List.Mem.head _ | refine List.Mem.tail _ ?_)) rfl, _, _, _, fun w' h => h.ld (b := k) (by repeat (first | exact List.Mem.head _ | refine List.Mem.tail _ ?_)) rfl, ⟨b, 0, none⟩, rfl, by omega, by omega, _, fun w' h => by rw [Int.toNat_natCast]; exact (T.rowS h (b := b) (L := L) (by repeat (first | exact List.Mem.head _ | refine List.Mem.tail _ ?_))).1.cell hi, ?_⟩
  rw [wrap64 _ (by omega) (by omega)]
  have l1 := hS.get i
  have l2 := synQ_len hS
  refine (exp_spec (0 - (i : Int)) _).mono fun e w3 ⟨he, hx3⟩ => ⟨_, he, h2'.quiet hx3, ?_⟩
  have h3 := h2'.quiet hx3
  refine (times_spec (strB (synQ L)) (exI (0 - (i : Int))) (by rw [strB_size]; omega) w3).mono fun e w4 ⟨he, hx4⟩ => ⟨_, he, h3.quiet hx4, ?_⟩
  have h4 := h3.quiet hx4
  refine (xor_spec (strB (L.getD i [])) (strB (timesL (synQ L) (exI (0 - (i : Int))))) (by rw [strB_size]; omega) (by rw [strB_size, timesL_len]; omega) _).mono fun e w5 ⟨he, hx5⟩ => ⟨_, he, h4.quiet hx5, ⟨b, 0, none⟩, rfl, by omega, by omega, ?_⟩
  rw [Int.toNat_natCast]
  exact StS.t (h4.quiet hx5) (.tail .head) hi fun w6 h6 => ⟨rfl, T.dropAt h6 (.tail .head)⟩
theorem both_spec (hS : Short L) (h2 : 2 ≤ L.length) (hn : L.length ≤ 200) (n : Int) {i k : Nat} (hi : i < L.length) (hk : k < L.length) (hT : T F w0 w (rowP 9 1 (some b) L.length cap (txts L) :: Γ)) :
    Calls Tryz.prog 45 #[.agg #[.slice (some ⟨b, 0, none⟩) L.length cap, .int .i64 n], .int .i64 (i : Int), .int .i64 (k : Int)] w fun e w' => e = .returned (.tuple #[]) ∧ T F w0 w' (rowP 9 1 (some b) L.length cap (txts (bothL L i k)) :: Γ) := by
  refine (refill_row_both_calls (R := fun v w' => v = .tuple #[] ∧ T F w0 w' (rowP 9 1 (some b) L.length cap (txts (bothL L i k)) :: Γ)) ?_).mono fun e w' ⟨v, he, hv, h⟩ => ⟨by rw [he, hv], h⟩
  unfold refill_row_both
  refine Alloc.t hT fun kk w1 h1 => ⟨_, _, _, h1.ld (b := kk) (by repeat (first | exact List.Mem.head _ | refine List.Mem.tail _ ?_)) rfl, ?_⟩
  obtain ⟨hs, _, hcap⟩ := T.rowS h1 (b := b) (L := L) (by repeat (first | exact List.Mem.head _ | refine List.Mem.tail _ ?_))
  have l1 := synP_len hS
  have l2 := synQ_len hS
  refine (sum_spec hS h2 hn hcap hs).mono fun e w2 ⟨he, hx2⟩ => ⟨_, _, he, ?_⟩
  refine (exp_spec (i : Int) w2).mono fun e w3 ⟨he, hx3⟩ => ⟨_, he, ?_⟩
  refine (exp_spec (k : Int) w3).mono fun e w4 ⟨he, hx4⟩ => ⟨_, he, ?_⟩
  rw [u8_xor]
  refine (inv_spec (exI (i : Int) ^^^ exI (k : Int)) w4).mono fun e w5 ⟨he, hx5⟩ => ⟨_, _, he, ?_⟩
  have h5 := ((((h1.quiet hx2).quiet hx3).quiet hx4).quiet hx5).drew
  refine ⟨fun w' => T F w0 w' (blk kk #[.slice (some ⟨b, 0, none⟩) L.length cap, .int .i64 n] 64 :: rowP 9 1 (some b) L.length cap (txts L) :: Γ), h5, _, _, _, fun w' h => h.ld (b := kk) (by repeat (first | exact List.Mem.head _ | refine List.Mem.tail _ ?_)) rfl, ?_⟩
  refine (exp_spec (i : Int) _).mono fun e w6 ⟨he, hx6⟩ => ⟨_, he, h5.quiet hx6, ?_⟩
  have h6 := h5.quiet hx6
  refine (times_spec (strB (synP L)) (exI (i : Int)) (by rw [strB_size]; omega) w6).mono fun e w7 ⟨he, hx7⟩ => ⟨_, he, h6.quiet hx7, ?_⟩
  have h7 := h6.quiet hx7
  have l3 : (xorT (synQ L) (timesL (synP L) (exI (i : Int)))).length ≤ 1000000 := by rw [xorT_len, timesL_len]; omega
  refine (xor_spec (strB (synQ L)) (strB (timesL (synP L) (exI (i : Int)))) (by rw [strB_size]; omega) (by rw [strB_size, timesL_len]; omega) _).mono fun e w8 ⟨he, hx8⟩ => ⟨_, he, h7.quiet hx8, ?_⟩
  have h8 := h7.quiet hx8
  refine (times_spec (strB (xorT (synQ L) (timesL (synP L) (exI (i : Int))))) (invF (exI (i : Int) ^^^ exI (k : Int))) (by rw [strB_size]; omega) w8).mono fun e w9 ⟨he, hx9⟩ => ⟨_, he, h8.quiet hx9, ⟨b, 0, none⟩, rfl, by omega, by omega, ?_⟩
  have h9 := h8.quiet hx9
  rw [Int.toNat_natCast]
  refine StS.t (x := bothK L i k) h9 (.tail .head) hk fun w10 h10 => ?_
  have hl10 : (L.set k (bothK L i k)).length = L.length := List.length_set
  have hg : (L.set k (bothK L i k)).getD k [] = bothK L i k := by simp [List.getD, hk]
  refine ⟨fun w' => T F w0 w' (rowP 9 1 (some b) L.length cap (txts (L.set k (bothK L i k))) :: blk kk #[.slice (some ⟨b, 0, none⟩) L.length cap, .int .i64 n] 64 :: Γ), h10.drew, _, _, _, fun w' h => h.ld (b := kk) (by repeat (first | exact List.Mem.head _ | refine List.Mem.tail _ ?_)) rfl, _, _, _, fun w' h => h.ld (b := kk) (by repeat (first | exact List.Mem.head _ | refine List.Mem.tail _ ?_)) rfl, ⟨b, 0, none⟩, rfl, by omega, by omega, strB (bothK L i k), fun w' h => ?_, ?_⟩
  · have := (T.rowS h (b := b) (L := L.set k (bothK L i k)) (by repeat (first | exact List.Mem.head _ | refine List.Mem.tail _ ?_))).1.cell (i := k) (by rw [hl10]; exact hk)
    rw [hg] at this
    exact this
  · have l4 : (bothK L i k).length ≤ 1000000 := by unfold bothK; rw [timesL_len]; exact l3
    refine (xor_spec (strB (synP L)) (strB (bothK L i k)) (by rw [strB_size]; omega) (by rw [strB_size]; omega) _).mono fun e w11 ⟨he, hx11⟩ => ⟨_, he, h10.drew.quiet hx11, ⟨b, 0, none⟩, rfl, by omega, by omega, ?_⟩
    rw [Int.toNat_natCast]
    exact StS.t (h10.drew.quiet hx11) .head (by rw [hl10]; exact hi) fun w12 h12 => ⟨rfl, T.dropAt h12 (.tail .head)⟩
/-- P told anew, Q told anew -/
def parP (L : List Txt) : List Txt := L.set (L.length - 2) (sumT (L.take (L.length - 2)))
def parQ (L : List Txt) : List Txt := L.set (L.length - 1) (qT (L.take (L.length - 2)))
def parF (p q : Bool) (L : List Txt) : List Txt := if q then parQ (if p then parP L else L) else if p then parP L else L
theorem parP_len (L : List Txt) : (parP L).length = L.length := List.length_set
theorem parP_short (hS : Short L) : Short (parP L) := fun x hx => by
  rcases List.mem_or_eq_of_mem_set hx with h | h
  · exact hS x h
  · rw [h]; exact sAcc_len (hS.take _) _
theorem par_spec {k : Nat} (p q : Bool) (hS : Short L) (h2 : 2 ≤ L.length) (hn : L.length ≤ 200) (hT : T F w0 w (rowP 9 1 (some b) L.length cap (txts L) :: blk k #[.slice (some ⟨b, 0, none⟩) L.length cap, .int .i64 ((L.length - 2 : Nat) : Int)] 64 :: Γ)) :
    Calls Tryz.prog 44 #[.bool p, .bool q, .pointer (some ⟨k, 0, none⟩)] w fun e w' => e = .returned (.tuple #[]) ∧ T F w0 w' (rowP 9 1 (some b) L.length cap (txts (parF p q L)) :: blk k #[.slice (some ⟨b, 0, none⟩) L.length cap, .int .i64 ((L.length - 2 : Nat) : Int)] 64 :: Γ) := by
  refine (refill_Fill_1_calls (R := fun v w' => v = .tuple #[] ∧ T F w0 w' (rowP 9 1 (some b) L.length cap (txts (parF p q L)) :: blk k #[.slice (some ⟨b, 0, none⟩) L.length cap, .int .i64 ((L.length - 2 : Nat) : Int)] 64 :: Γ)) ?_).mono fun e w' ⟨v, he, hv, h⟩ => ⟨by rw [he, hv], h⟩
  unfold refill_Fill_1
  refine Join.intro fun J hJ => ?_
  have e1 : IntKind.i64.wrap (((L.length - 2 : Nat) : Int) + 1) = ((L.length - 1 : Nat) : Int) := by rw [wrap64 _ (by omega) (by omega)]; omega
  have main : ∀ (L' : List Txt) (w' : World), L'.length = L.length → Short L' → (if p then parP L else L) = L' → T F w0 w' (rowP 9 1 (some b) L.length cap (txts L') :: blk k #[.slice (some ⟨b, 0, none⟩) L.length cap, .int .i64 ((L.length - 2 : Nat) : Int)] 64 :: Γ) → J [] w' := by
    intro L' w1 hl' hS' hL' h1
    refine hJ _ _ ⟨rfl, fun hq => ?_, fun hq => ?_⟩
    · have hres : parF p q L = parQ L' := by unfold parF; rw [if_pos hq, hL']
      obtain ⟨hs, _, hcap⟩ := T.rowS h1.drew (b := b) (L := L') (by repeat (first | exact List.Mem.head _ | refine List.Mem.tail _ ?_))
      refine ⟨fun w' => T F w0 w' (rowP 9 1 (some b) L.length cap (txts L') :: blk k #[.slice (some ⟨b, 0, none⟩) L.length cap, .int .i64 ((L.length - 2 : Nat) : Int)] 64 :: Γ), h1.drew, _, _, _, fun w' h => h.ld (b := k) (by repeat (first | exact List.Mem.head _ | refine List.Mem.tail _ ?_)) rfl, _, fun w' h => by rw [addr_add]; exact h.ld (b := k) (i := 1) (by repeat (first | exact List.Mem.head _ | refine List.Mem.tail _ ?_)) rfl, _, _, _, fun w' h => h.ld (b := k) (by repeat (first | exact List.Mem.head _ | refine List.Mem.tail _ ?_)) rfl, _, fun w' h => by rw [addr_add]; exact h.ld (b := k) (i := 1) (by repeat (first | exact List.Mem.head _ | refine List.Mem.tail _ ?_)) rfl, _, _, _, fun w' h => strs_to (by omega) (by omega) w', ?_⟩
      rw [Int.toNat_natCast, e1]
      have hst := hs.take (L.length - 2)
      have htl : (L'.take (L.length - 2)).length = L.length - 2 := by rw [List.length_take]; omega
      have hq := q_spec (hS'.take (L.length - 2)) (by omega) (c := cap) (by omega) hst
      rw [htl] at hq
      refine hq.mono fun e w2 ⟨he, hx2⟩ => ⟨_, he, h1.drew.quiet hx2, ⟨b, 0, none⟩, rfl, by omega, by omega, ?_⟩
      rw [Int.toNat_natCast]
      refine StS.t (h1.drew.quiet hx2) .head (by omega) fun w3 h3 => ⟨rfl, ?_⟩
      rw [hres]
      unfold parQ
      rw [hl']
      exact h3
    · have hres : parF p q L = L' := by unfold parF; rw [if_neg (by rw [hq]; decide)]; exact hL'
      rw [hres]
      exact ⟨rfl, h1⟩
  refine ⟨fun hp => ?_, fun hp => main L w rfl hS (if_neg (by rw [hp]; decide)) hT⟩
  obtain ⟨hs, _, hcap⟩ := T.rowS hT.drew (b := b) (L := L) (by repeat (first | exact List.Mem.head _ | refine List.Mem.tail _ ?_))
  refine ⟨fun w' => T F w0 w' (rowP 9 1 (some b) L.length cap (txts L) :: blk k #[.slice (some ⟨b, 0, none⟩) L.length cap, .int .i64 ((L.length - 2 : Nat) : Int)] 64 :: Γ), hT.drew, _, _, _, fun w' h => h.ld (b := k) (by repeat (first | exact List.Mem.head _ | refine List.Mem.tail _ ?_)) rfl, _, fun w' h => by rw [addr_add]; exact h.ld (b := k) (i := 1) (by repeat (first | exact List.Mem.head _ | refine List.Mem.tail _ ?_)) rfl, _, _, _, fun w' h => h.ld (b := k) (by repeat (first | exact List.Mem.head _ | refine List.Mem.tail _ ?_)) rfl, _, fun w' h => by rw [addr_add]; exact h.ld (b := k) (i := 1) (by repeat (first | exact List.Mem.head _ | refine List.Mem.tail _ ?_)) rfl, _, _, _, fun w' h => strs_to (by omega) (by omega) w', ?_⟩
  rw [Int.toNat_natCast]
  have hst := hs.take (L.length - 2)
  have htl : (L.take (L.length - 2)).length = L.length - 2 := by rw [List.length_take]; omega
  have hpp := p_spec (hS.take (L.length - 2)) (by omega) (c := cap) hst
  rw [htl] at hpp
  refine hpp.mono fun e w2 ⟨he, hx2⟩ => ⟨_, he, hT.drew.quiet hx2, ⟨b, 0, none⟩, rfl, by omega, by omega, ?_⟩
  refine StS.t (hT.drew.quiet hx2) .head (by omega) fun w3 h3 => main (parP L) w3 (parP_len L) (parP_short hS) (if_pos hp) ?_
  unfold parP
  exact h3
end
end Go.Proofs.YtdfkifgkccnaiaaGreatDoor
