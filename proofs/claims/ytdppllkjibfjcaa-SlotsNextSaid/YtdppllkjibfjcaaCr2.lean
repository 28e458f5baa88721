import Derived.Test.YtdppllkjibfjcaaCr1
/-! crc: the table, More, Sum, bytes. -/
namespace Go.Proofs.Ytdppllkjibfjcaa
open Go.Sh Go.RowKit
set_option linter.unusedVariables false
set_option maxRecDepth 20000
set_option maxHeartbeats 1000000
def it1 : Nat → B32 → B32
  | 0, x => x
  | j + 1, x => step1 (it1 j x)
theorem step1_val (x : B32) : bits2 .xor .u32 (Int.fdiv (x.toNat : Int) (2 ^ 1)) (IntKind.u32.wrap (2197175160 * (bits2 .and .u32 (x.toNat : Int) 1))) = ((step1 x).toNat : Int) := by
  have h1 : bits2 .and .u32 (x.toNat : Int) 1 = ((x &&& 1#32).toNat : Int) := and32 x 1#32
  have h2 : IntKind.u32.wrap (2197175160 * ((x &&& 1#32).toNat : Int)) = ((poly * (x &&& 1#32)).toNat : Int) := by
    have e : IntKind.u32.wrap (2197175160 * ((x &&& 1#32).toNat : Int)) = (2197175160 * ((x &&& 1#32).toNat : Int)) % 4294967296 := by simp [IntKind.wrap, IntKind.bits, IntKind.signed]
    rw [e, BitVec.toNat_mul]
    have : poly.toNat = 2197175160 := rfl
    rw [this, Int.natCast_emod, Int.natCast_mul]
    rfl
  rw [h1, h2, shr32 x 1, xor32]
  rfl
def tabC (n : Nat) : Array Value := ((List.range 16).map fun i => if i < n then u32v (step4 (BitVec.ofNat 32 i)) else .int .u32 0).toArray
theorem tabC_size (n : Nat) : (tabC n).size = 16 := by simp [tabC]
theorem tabC_get (n i : Nat) (hi : i < 16) : (tabC n)[i]? = some (if i < n then u32v (step4 (BitVec.ofNat 32 i)) else .int .u32 0) := by
  simp [tabC, hi]
theorem tabC_step (n : Nat) (hn : n < 16) : (tabC n).setIfInBounds n (u32v (step4 (BitVec.ofNat 32 n))) = tabC (n + 1) := by
  apply Array.ext_getElem?
  intro i
  by_cases hi : i < 16
  · rw [Array.getElem?_setIfInBounds, tabC_get (n + 1) i hi, tabC_size]
    by_cases h : n = i
    · subst h; simp [hn]
    · rw [if_neg h, tabC_get n i hi]
      congr 1
      by_cases h2 : i < n
      · rw [if_pos h2, if_pos (by omega)]
      · rw [if_neg h2, if_neg (by omega)]
  · rw [Array.getElem?_eq_none (by simp [tabC_size]; omega), Array.getElem?_eq_none (by simp [tabC_size]; omega)]
theorem storeBig_t {P : Program} {t0 : TypeId} {i : TypeInfo} {F : List Nat} {w0 w : World} {Γ Δ : List A} {b : Nat} {c cs : Array Value} {t : TypeId} (hT : T F w0 w Γ) (hk : Pick (blk b c t) Γ Δ) (hi : P.info? t0 = some i) (hs : cs.size = P.cellsOf t0)
    (hv : ∀ v ∈ cs.toList, scalar v = true) (hl : cs.size = c.size) : ∃ w', (Instr.storeAt t0 (.pointer (some ⟨b, 0, none⟩)) (.agg cs)).run P w = .ok () w' ∧ T F w0 w' (blk b cs t :: Δ) := by
  obtain ⟨w', h1, h2⟩ := stBig.t (P := P) (K := fun _ w' => T F w0 w' (blk b (putAt c 0 cs.toList) t :: Δ)) hT hk hi hs hv (by omega) fun w' h => h
  rw [putAt_all hl.symm] at h2
  exact ⟨w', h1, h2⟩
theorem tabC_scalar (n : Nat) : ∀ v ∈ (tabC n).toList, scalar v = true := by
  intro v hv
  simp only [tabC, List.mem_map] at hv
  obtain ⟨i, _, rfl⟩ := hv
  split <;> rfl
theorem table_spec (w : World) : Ret Try.prog 101 #[] w (.agg (tabC 16)) := by
  refine ret_of (crc_table_calls ?_)
  unfold crc_table
  refine Alloc.t (T.nil w) fun k0 w1 h1 => Alloc.t h1 fun k1 w2 h2 => ?_
  have h2' : T [] w w2 [blk k1 (tabC 0) 142, blk k0 (tabC 0) 142] := h2
  refine ⟨fun vs w' => ∃ n : Nat, vs = [.int .i64 n] ∧ n ≤ 16 ∧ T [] w w' [blk k1 (tabC n) 142, blk k0 (tabC 0) 142], fun vs _ => match vs with | [.int _ n] => (16 - n).toNat | _ => 0, ⟨0, rfl, by omega, h2'⟩, ?_⟩
  rintro vs w3 ⟨n, rfl, hn, h3⟩
  refine ⟨_, rfl, dec_t fun hlt => ?_, dec_f fun hge => ?_⟩
  · have hlt : n < 16 := by omega
    have e0 : IntKind.u32.wrap (n : Int) = ((it1 0 (BitVec.ofNat 32 n)).toNat : Int) := by
      rw [wrap32 _ (by omega) (by omega)]
      show (n : Int) = ((BitVec.ofNat 32 n).toNat : Int)
      rw [BitVec.toNat_ofNat]; omega
    refine ⟨fun vs w' => ∃ j : Nat, vs = [u32v (it1 j (BitVec.ofNat 32 n)), .int .i64 j] ∧ j ≤ 4 ∧ T [] w w' [blk k1 (tabC n) 142, blk k0 (tabC 0) 142], fun vs _ => match vs with | [_, .int _ j] => (4 - j).toNat | _ => 0, ⟨0, by rw [e0]; rfl, by omega, h3⟩, ?_⟩
    rintro vs w4 ⟨j, rfl, hj, h4⟩
    refine ⟨_, _, rfl, dec_t fun hjl => ⟨⟨j + 1, ?_, by omega, h4⟩, ?_⟩, dec_f fun hjg => ⟨by omega, by omega, ?_⟩⟩
    · rw [step1_val, wrap64 _ (by omega) (by omega)]; rfl
    · show ((4 : Int) - IntKind.i64.wrap ((j : Int) + 1)).toNat < ((4 : Int) - (j : Int)).toNat
      rw [wrap64 _ (by omega) (by omega)]; omega
    · have hj4 : j = 4 := by omega
      subst hj4
      rw [addr_add, Nat.zero_add, Nat.mul_one, show ((n : Nat) : Int).toNat = n by omega]
      refine St.t h4 .head (by rw [tabC_size]; omega) (tabC_step n hlt) rfl fun w5 h5 => ⟨⟨n + 1, ?_, by omega, h5⟩, ?_⟩
      · rw [wrap64 _ (by omega) (by omega)]; rfl
      · show ((16 : Int) - IntKind.i64.wrap ((n : Int) + 1)).toNat < ((16 : Int) - (n : Int)).toNat
        rw [wrap64 _ (by omega) (by omega)]; omega
  · have hn16 : n = 16 := by omega
    subst hn16
    obtain ⟨w6, hr, h6⟩ := storeBig_t (P := Try.prog) (t0 := 142) (i := Try.t142) (cs := tabC 16) h3 (.tail .head) (by kernel_rfl) (by rw [tabC_size]; kernel_rfl) (tabC_scalar 16) (by rw [tabC_size, tabC_size])
    refine ⟨tabC 16, tabC_size 16, T.big h3 (by first | exact List.Mem.head _ | exact List.Mem.tail _ (List.Mem.head _) | exact List.Mem.tail _ (List.Mem.tail _ (List.Mem.head _)) | exact List.Mem.tail _ (List.Mem.tail _ (List.Mem.tail _ (List.Mem.head _))) | exact List.Mem.tail _ (List.Mem.tail _ (List.Mem.tail _ (List.Mem.tail _ (List.Mem.head _)))) | exact List.Mem.tail _ (List.Mem.tail _ (List.Mem.tail _ (List.Mem.tail _ (List.Mem.tail _ (List.Mem.head _))))) | exact List.Mem.tail _ (List.Mem.tail _ (List.Mem.tail _ (List.Mem.tail _ (List.Mem.tail _ (List.Mem.tail _ (List.Mem.head _)))))) | exact List.Mem.tail _ (List.Mem.tail _ (List.Mem.tail _ (List.Mem.tail _ (List.Mem.tail _ (List.Mem.tail _ (List.Mem.tail _ (List.Mem.head _))))))) | exact List.Mem.tail _ (List.Mem.tail _ (List.Mem.tail _ (List.Mem.tail _ (List.Mem.tail _ (List.Mem.tail _ (List.Mem.tail _ (List.Mem.tail _ (List.Mem.head _)))))))) | exact List.Mem.tail _ (List.Mem.tail _ (List.Mem.tail _ (List.Mem.tail _ (List.Mem.tail _ (List.Mem.tail _ (List.Mem.tail _ (List.Mem.tail _ (List.Mem.tail _ (List.Mem.head _))))))))) | exact List.Mem.tail _ (List.Mem.tail _ (List.Mem.tail _ (List.Mem.tail _ (List.Mem.tail _ (List.Mem.tail _ (List.Mem.tail _ (List.Mem.tail _ (List.Mem.tail _ (List.Mem.tail _ (List.Mem.head _)))))))))) | exact List.Mem.tail _ (List.Mem.tail _ (List.Mem.tail _ (List.Mem.tail _ (List.Mem.tail _ (List.Mem.tail _ (List.Mem.tail _ (List.Mem.tail _ (List.Mem.tail _ (List.Mem.tail _ (List.Mem.tail _ (List.Mem.head _)))))))))))) (fun i _ => by rw [Nat.zero_add]), w6, hr, tabC 16, tabC_size 16, T.big h6 (by first | exact List.Mem.head _ | exact List.Mem.tail _ (List.Mem.head _) | exact List.Mem.tail _ (List.Mem.tail _ (List.Mem.head _)) | exact List.Mem.tail _ (List.Mem.tail _ (List.Mem.tail _ (List.Mem.head _))) | exact List.Mem.tail _ (List.Mem.tail _ (List.Mem.tail _ (List.Mem.tail _ (List.Mem.head _)))) | exact List.Mem.tail _ (List.Mem.tail _ (List.Mem.tail _ (List.Mem.tail _ (List.Mem.tail _ (List.Mem.head _))))) | exact List.Mem.tail _ (List.Mem.tail _ (List.Mem.tail _ (List.Mem.tail _ (List.Mem.tail _ (List.Mem.tail _ (List.Mem.head _)))))) | exact List.Mem.tail _ (List.Mem.tail _ (List.Mem.tail _ (List.Mem.tail _ (List.Mem.tail _ (List.Mem.tail _ (List.Mem.tail _ (List.Mem.head _))))))) | exact List.Mem.tail _ (List.Mem.tail _ (List.Mem.tail _ (List.Mem.tail _ (List.Mem.tail _ (List.Mem.tail _ (List.Mem.tail _ (List.Mem.tail _ (List.Mem.head _)))))))) | exact List.Mem.tail _ (List.Mem.tail _ (List.Mem.tail _ (List.Mem.tail _ (List.Mem.tail _ (List.Mem.tail _ (List.Mem.tail _ (List.Mem.tail _ (List.Mem.tail _ (List.Mem.head _))))))))) | exact List.Mem.tail _ (List.Mem.tail _ (List.Mem.tail _ (List.Mem.tail _ (List.Mem.tail _ (List.Mem.tail _ (List.Mem.tail _ (List.Mem.tail _ (List.Mem.tail _ (List.Mem.tail _ (List.Mem.head _)))))))))) | exact List.Mem.tail _ (List.Mem.tail _ (List.Mem.tail _ (List.Mem.tail _ (List.Mem.tail _ (List.Mem.tail _ (List.Mem.tail _ (List.Mem.tail _ (List.Mem.tail _ (List.Mem.tail _ (List.Mem.tail _ (List.Mem.head _)))))))))))) (fun i _ => by rw [Nat.zero_add]), rfl, h6.chg.ext⟩
theorem half_spec {F : List Nat} {w0 w : World} {Γ : List A} {kx kt : Nat} {x : B32} {tx : TypeId} (hT : T F w0 w (blk kx #[u32v x] tx :: Γ)) (ht : blk kt (tabC 16) 142 ∈ Γ) {Φ : Ending → World → Prop}
    (hΦ : ∀ w', T F w0 w' (blk kx #[u32v (step4 x)] tx :: Γ) → Φ (.returned (.tuple #[])) w') :
    Calls Try.prog 102 #[.pointer (some ⟨kx, 0, none⟩), .pointer (some ⟨kt, 0, none⟩)] w Φ := by
  refine (crc_More_1_calls (R := fun v w' => v = .tuple #[] ∧ T F w0 w' (blk kx #[u32v (step4 x)] tx :: Γ)) ?_).mono fun e w' ⟨v, he, hv, h⟩ => by rw [he, hv]; exact hΦ w' h
  unfold crc_More_1
  have hd := hT.drew
  have ha : bits2 .and .u32 (x.toNat : Int) 15 = ((x &&& 15#32).toNat : Int) := and32 x 15#32
  have hlt : (x &&& 15#32).toNat < 16 := by
    rw [BitVec.toNat_and]
    exact Nat.lt_of_le_of_lt Nat.and_le_right (by decide)
  refine ⟨fun w => T F w0 w (blk kx #[u32v x] tx :: Γ), hd, _, fun w h => h.ld List.mem_cons_self rfl, _, fun w h => h.ld List.mem_cons_self rfl, by rw [ha]; omega, by rw [ha]; omega, ((step4 (x &&& 15#32)).toNat : Int), fun w h => ?_, ?_⟩
  · rw [ha, addr_add, Nat.zero_add, Nat.mul_one, Int.toNat_natCast]
    refine h.ld (List.mem_cons_of_mem _ ht) ?_
    rw [tabC_get 16 _ hlt, if_pos hlt, BitVec.ofNat_toNat]
    simp
  · rw [shr32 x 4, xor32]
    refine St.t hd .head (by simp) (by rfl) rfl fun w1 h1 => ⟨rfl, ?_⟩
    rw [← half_step4]
    exact h1
theorem index_str {P : Program} {t : TypeId} {s : ByteArray} {k : IntKind} {n : Int} {w : World} (ht : P.underlying t = some .string) (h0 : 0 ≤ n) (h1 : n < (s.size : Int)) : (Instr.index t (.string s) (.int k n)).run P w = .ok (.int .u8 ((s.data.toList.getD n.toNat 0).toNat : Int)) w := by
  have hn : n.toNat < s.size := by omega
  have hn2 : n.toNat < s.data.toList.length := by rw [Array.length_toList]; exact hn
  simp [Instr.index, asIntOf, underlying_run ht, h0, h1]
  rfl
theorem more_spec (n : B32) (s : ByteArray) (hs : s.size ≤ 1000000000) (w : World) : Ret Try.prog 90 #[u32v n, .string s] w (u32v (crcMore n s.data.toList)) := by
  refine ret_of (crc_More_calls ?_)
  unfold crc_More
  refine (table_spec w).mono fun e w1 ⟨he, hx⟩ => ⟨_, tabC_size 16, he, ?_⟩
  have h1 : T [] w w1 [] := (T.nil w).quiet hx
  refine Alloc.t h1 fun k5 w2 h2 => ?_
  have h2' : T [] w w2 [blk k5 (tabC 0) 142] := h2
  obtain ⟨w3, hr, h3⟩ := storeBig_t (P := Try.prog) (t0 := 142) (i := Try.t142) (cs := tabC 16) h2' .head (by kernel_rfl) (by rw [tabC_size]; kernel_rfl) (tabC_scalar 16) (by rw [tabC_size, tabC_size])
  refine ⟨w3, hr, Alloc.t h3 fun k6 w4 h4 => ?_⟩
  have en : bits2 .xor .u32 IntKind.u32.max (n.toNat : Int) = ((~~~ n).toNat : Int) := by
    have : IntKind.u32.max = (((-1#32 : B32)).toNat : Int) := by decide
    rw [this, xor32]
    congr 2
  rw [en]
  refine St.t h4 .head (by simp) (by rfl) rfl fun w5 h5 => ?_
  have hl : s.data.toList.length = s.size := Array.length_toList
  refine ⟨fun vs w' => ∃ i : Nat, vs = [.int .i64 i] ∧ i ≤ s.size ∧ T [] w w' [blk k6 #[u32v ((s.data.toList.take i).foldl crcB (~~~ n))] 124, blk k5 (tabC 16) 142], fun vs _ => match vs with | [.int _ i] => (s.size - i).toNat | _ => 0, ⟨0, rfl, by omega, h5⟩, ?_⟩
  rintro vs w6 ⟨i, rfl, hi, h6⟩
  refine ⟨_, rfl, dec_t fun hlt => ?_, dec_f fun hge => ?_⟩
  · have hlt : i < s.size := by omega
    have hd := h6.drew
    have hb : ((s.data.toList.getD i 0).toNat : Int) < 256 := by have := (s.data.toList.getD i 0).toNat_lt; omega
    have ex : ∀ x : B32, bits2 .xor .u32 (x.toNat : Int) (IntKind.u32.wrap ((s.data.toList.getD i 0).toNat : Int)) = ((x ^^^ byte32 (s.data.toList.getD i 0)).toNat : Int) := by
      intro x
      have : IntKind.u32.wrap ((s.data.toList.getD i 0).toNat : Int) = ((byte32 (s.data.toList.getD i 0)).toNat : Int) := by
        rw [wrap32 _ (by omega) (by omega)]
        unfold byte32
        rw [BitVec.toNat_ofNat]
        omega
      rw [this, xor32]
    refine ⟨fun w' => T [] w w' _, hd, _, fun w h => h.ld (by first | exact List.Mem.head _ | exact List.Mem.tail _ (List.Mem.head _) | exact List.Mem.tail _ (List.Mem.tail _ (List.Mem.head _)) | exact List.Mem.tail _ (List.Mem.tail _ (List.Mem.tail _ (List.Mem.head _))) | exact List.Mem.tail _ (List.Mem.tail _ (List.Mem.tail _ (List.Mem.tail _ (List.Mem.head _)))) | exact List.Mem.tail _ (List.Mem.tail _ (List.Mem.tail _ (List.Mem.tail _ (List.Mem.tail _ (List.Mem.head _))))) | exact List.Mem.tail _ (List.Mem.tail _ (List.Mem.tail _ (List.Mem.tail _ (List.Mem.tail _ (List.Mem.tail _ (List.Mem.head _)))))) | exact List.Mem.tail _ (List.Mem.tail _ (List.Mem.tail _ (List.Mem.tail _ (List.Mem.tail _ (List.Mem.tail _ (List.Mem.tail _ (List.Mem.head _))))))) | exact List.Mem.tail _ (List.Mem.tail _ (List.Mem.tail _ (List.Mem.tail _ (List.Mem.tail _ (List.Mem.tail _ (List.Mem.tail _ (List.Mem.tail _ (List.Mem.head _)))))))) | exact List.Mem.tail _ (List.Mem.tail _ (List.Mem.tail _ (List.Mem.tail _ (List.Mem.tail _ (List.Mem.tail _ (List.Mem.tail _ (List.Mem.tail _ (List.Mem.tail _ (List.Mem.head _))))))))) | exact List.Mem.tail _ (List.Mem.tail _ (List.Mem.tail _ (List.Mem.tail _ (List.Mem.tail _ (List.Mem.tail _ (List.Mem.tail _ (List.Mem.tail _ (List.Mem.tail _ (List.Mem.tail _ (List.Mem.head _)))))))))) | exact List.Mem.tail _ (List.Mem.tail _ (List.Mem.tail _ (List.Mem.tail _ (List.Mem.tail _ (List.Mem.tail _ (List.Mem.tail _ (List.Mem.tail _ (List.Mem.tail _ (List.Mem.tail _ (List.Mem.tail _ (List.Mem.head _)))))))))))) rfl, ((s.data.toList.getD i 0).toNat : Int), fun w h => ?_, ?_⟩
    · have := index_str (P := Try.prog) (t := 9) (k := .i64) (n := i) (s := s) (w := w) (by kernel_rfl) (by omega) (by omega)
      rwa [show ((i : Nat) : Int).toNat = i by omega] at this
    · rw [ex]
      refine St.t hd .head (by simp) (by rfl) rfl fun w7 h7 => ?_
      refine half_spec h7 (by first | exact List.Mem.head _ | exact List.Mem.tail _ (List.Mem.head _) | exact List.Mem.tail _ (List.Mem.tail _ (List.Mem.head _)) | exact List.Mem.tail _ (List.Mem.tail _ (List.Mem.tail _ (List.Mem.head _))) | exact List.Mem.tail _ (List.Mem.tail _ (List.Mem.tail _ (List.Mem.tail _ (List.Mem.head _)))) | exact List.Mem.tail _ (List.Mem.tail _ (List.Mem.tail _ (List.Mem.tail _ (List.Mem.tail _ (List.Mem.head _))))) | exact List.Mem.tail _ (List.Mem.tail _ (List.Mem.tail _ (List.Mem.tail _ (List.Mem.tail _ (List.Mem.tail _ (List.Mem.head _)))))) | exact List.Mem.tail _ (List.Mem.tail _ (List.Mem.tail _ (List.Mem.tail _ (List.Mem.tail _ (List.Mem.tail _ (List.Mem.tail _ (List.Mem.head _))))))) | exact List.Mem.tail _ (List.Mem.tail _ (List.Mem.tail _ (List.Mem.tail _ (List.Mem.tail _ (List.Mem.tail _ (List.Mem.tail _ (List.Mem.tail _ (List.Mem.head _)))))))) | exact List.Mem.tail _ (List.Mem.tail _ (List.Mem.tail _ (List.Mem.tail _ (List.Mem.tail _ (List.Mem.tail _ (List.Mem.tail _ (List.Mem.tail _ (List.Mem.tail _ (List.Mem.head _))))))))) | exact List.Mem.tail _ (List.Mem.tail _ (List.Mem.tail _ (List.Mem.tail _ (List.Mem.tail _ (List.Mem.tail _ (List.Mem.tail _ (List.Mem.tail _ (List.Mem.tail _ (List.Mem.tail _ (List.Mem.head _)))))))))) | exact List.Mem.tail _ (List.Mem.tail _ (List.Mem.tail _ (List.Mem.tail _ (List.Mem.tail _ (List.Mem.tail _ (List.Mem.tail _ (List.Mem.tail _ (List.Mem.tail _ (List.Mem.tail _ (List.Mem.tail _ (List.Mem.head _)))))))))))) fun w8 h8 => ⟨rfl, half_spec h8 (by first | exact List.Mem.head _ | exact List.Mem.tail _ (List.Mem.head _) | exact List.Mem.tail _ (List.Mem.tail _ (List.Mem.head _)) | exact List.Mem.tail _ (List.Mem.tail _ (List.Mem.tail _ (List.Mem.head _))) | exact List.Mem.tail _ (List.Mem.tail _ (List.Mem.tail _ (List.Mem.tail _ (List.Mem.head _)))) | exact List.Mem.tail _ (List.Mem.tail _ (List.Mem.tail _ (List.Mem.tail _ (List.Mem.tail _ (List.Mem.head _))))) | exact List.Mem.tail _ (List.Mem.tail _ (List.Mem.tail _ (List.Mem.tail _ (List.Mem.tail _ (List.Mem.tail _ (List.Mem.head _)))))) | exact List.Mem.tail _ (List.Mem.tail _ (List.Mem.tail _ (List.Mem.tail _ (List.Mem.tail _ (List.Mem.tail _ (List.Mem.tail _ (List.Mem.head _))))))) | exact List.Mem.tail _ (List.Mem.tail _ (List.Mem.tail _ (List.Mem.tail _ (List.Mem.tail _ (List.Mem.tail _ (List.Mem.tail _ (List.Mem.tail _ (List.Mem.head _)))))))) | exact List.Mem.tail _ (List.Mem.tail _ (List.Mem.tail _ (List.Mem.tail _ (List.Mem.tail _ (List.Mem.tail _ (List.Mem.tail _ (List.Mem.tail _ (List.Mem.tail _ (List.Mem.head _))))))))) | exact List.Mem.tail _ (List.Mem.tail _ (List.Mem.tail _ (List.Mem.tail _ (List.Mem.tail _ (List.Mem.tail _ (List.Mem.tail _ (List.Mem.tail _ (List.Mem.tail _ (List.Mem.tail _ (List.Mem.head _)))))))))) | exact List.Mem.tail _ (List.Mem.tail _ (List.Mem.tail _ (List.Mem.tail _ (List.Mem.tail _ (List.Mem.tail _ (List.Mem.tail _ (List.Mem.tail _ (List.Mem.tail _ (List.Mem.tail _ (List.Mem.tail _ (List.Mem.head _)))))))))))) fun w9 h9 => ⟨rfl, ⟨i + 1, ?_, by omega, ?_⟩, ?_⟩⟩
      · rw [wrap64 _ (by omega) (by omega)]; rfl
      · have : (s.data.toList.take (i + 1)).foldl crcB (~~~ n) = crcB ((s.data.toList.take i).foldl crcB (~~~ n)) (s.data.toList.getD i 0) := by
          rw [List.take_add_one, List.getElem?_eq_getElem (by omega), List.getD_eq_getElem?_getD, List.getElem?_eq_getElem (by omega)]
          simp
        rw [this]
        exact h9
      · show ((s.size : Int) - IntKind.i64.wrap ((i : Int) + 1)).toNat < ((s.size : Int) - (i : Int)).toNat
        rw [wrap64 _ (by omega) (by omega)]; omega
  · have hie : i = s.size := by omega
    subst hie
    rw [List.take_of_length_le (by omega)] at h6
    refine ⟨_, h6.ld (by first | exact List.Mem.head _ | exact List.Mem.tail _ (List.Mem.head _) | exact List.Mem.tail _ (List.Mem.tail _ (List.Mem.head _)) | exact List.Mem.tail _ (List.Mem.tail _ (List.Mem.tail _ (List.Mem.head _))) | exact List.Mem.tail _ (List.Mem.tail _ (List.Mem.tail _ (List.Mem.tail _ (List.Mem.head _)))) | exact List.Mem.tail _ (List.Mem.tail _ (List.Mem.tail _ (List.Mem.tail _ (List.Mem.tail _ (List.Mem.head _))))) | exact List.Mem.tail _ (List.Mem.tail _ (List.Mem.tail _ (List.Mem.tail _ (List.Mem.tail _ (List.Mem.tail _ (List.Mem.head _)))))) | exact List.Mem.tail _ (List.Mem.tail _ (List.Mem.tail _ (List.Mem.tail _ (List.Mem.tail _ (List.Mem.tail _ (List.Mem.tail _ (List.Mem.head _))))))) | exact List.Mem.tail _ (List.Mem.tail _ (List.Mem.tail _ (List.Mem.tail _ (List.Mem.tail _ (List.Mem.tail _ (List.Mem.tail _ (List.Mem.tail _ (List.Mem.head _)))))))) | exact List.Mem.tail _ (List.Mem.tail _ (List.Mem.tail _ (List.Mem.tail _ (List.Mem.tail _ (List.Mem.tail _ (List.Mem.tail _ (List.Mem.tail _ (List.Mem.tail _ (List.Mem.head _))))))))) | exact List.Mem.tail _ (List.Mem.tail _ (List.Mem.tail _ (List.Mem.tail _ (List.Mem.tail _ (List.Mem.tail _ (List.Mem.tail _ (List.Mem.tail _ (List.Mem.tail _ (List.Mem.tail _ (List.Mem.head _)))))))))) | exact List.Mem.tail _ (List.Mem.tail _ (List.Mem.tail _ (List.Mem.tail _ (List.Mem.tail _ (List.Mem.tail _ (List.Mem.tail _ (List.Mem.tail _ (List.Mem.tail _ (List.Mem.tail _ (List.Mem.tail _ (List.Mem.head _)))))))))))) rfl, ?_, h6.chg.ext⟩
    have en2 : ∀ x : B32, bits2 .xor .u32 IntKind.u32.max (x.toNat : Int) = ((~~~ x).toNat : Int) := by
      intro x
      have : IntKind.u32.max = (((-1#32 : B32)).toNat : Int) := by decide
      rw [this, xor32]
      congr 2
    rw [en2]
    rfl
theorem sum_spec (s : ByteArray) (hs : s.size ≤ 1000000000) (w : World) : Ret Try.prog 78 #[.string s] w (u32v (crcSum s.data.toList)) := by
  refine ret_of (crc_Sum_calls ?_)
  unfold crc_Sum
  exact (more_spec 0#32 s hs w).mono fun e w1 ⟨he, hx⟩ => ⟨_, he, rfl, hx⟩
end Go.Proofs.Ytdppllkjibfjcaa
