import Derived.Test.YtdppllkjibfjcaaCr3
import Derived.Test.YtdppllkjibfjcaaMem7
/-! crc: Seal. -/
namespace Go.Proofs.Ytdppllkjibfjcaa
open Go.Sh Go.RowKit
set_option linter.unusedVariables false
set_option maxRecDepth 20000
set_option maxHeartbeats 1000000
theorem byteCells_b (l : List UInt8) : Go.Lib.byteCells l = bvals l := rfl
theorem bvals_zeros (n : Nat) : List.replicate n (Value.int .u8 0) = bvals (List.replicate n 0) := by simp [bvals]
theorem bvals_drop (l : List UInt8) (n : Nat) : (bvals l).drop n = bvals (l.drop n) := by simp [bvals]
theorem bvals_append (a b : List UInt8) : bvals a ++ bvals b = bvals (a ++ b) := by simp [bvals]
theorem bvals_one (l : List UInt8) : ∀ u ∈ bvals l, u.oneCell' = true := by
  intro v hv
  simp only [bvals, List.mem_map] at hv
  obtain ⟨b, _, rfl⟩ := hv
  rfl
theorem seal_spec (s : ByteArray) (size : Nat) (hs : s.size + 4 ≤ size) (hz : size ≤ 4096) (w : World) : Ret Try.prog 65 #[.string s, .int .i64 (size : Int)] w (.tuple #[.string (strB (sealB s.data.toList size)), .bool true]) := by
  refine ret_of (crc_Seal_calls ?_)
  unfold crc_Seal
  have wr : IntKind.i64.wrap ((size : Int) - 4) = (size : Int) - 4 := wrap64 _ (by omega) (by omega)
  have hn : ((size : Int) - 4).toNat = size - 4 := by omega
  have hl : s.data.toList.length = s.size := Array.length_toList
  rw [wr]
  refine no (decide_eq_false (by omega)) (no (decide_eq_false (by omega)) (no (decide_eq_false (by omega)) ?_))
  obtain ⟨k, w1, hm, h1⟩ := make_t (P := Try.prog) (t := 30) (e := 5) (i := Try.t5) (z := .int .u8 0) (kl := .i64) (kc := .i64) (n := (size : Int) - 4) (c := (size : Int) - 4) (by kernel_rfl) (by kernel_rfl) (by kernel_rfl) (by kernel_rfl) (by rfl) (by kernel_rfl) (by omega) (Int.le_refl _) (by omega) (T.nil w)
  rw [hn] at hm h1
  obtain ⟨w2, hcp, h2⟩ := copyStr_t (P := Try.prog) (dT := 30) (sT := 9) (ty := 3) (cs := #[false, false]) (s := s) (by kernel_rfl) (by kernel_rfl) (by omega) h1 .head
  have ex : Go.Lib.byteCells s.data.toList ++ (List.replicate (size - 4) ((Value.int .u8 0).cells.getD 0 undef)).drop s.size = bvals (padB s.data.toList (size - 4)) := by
    show bvals s.data.toList ++ (List.replicate (size - 4) (Value.int .u8 0)).drop s.size = _
    rw [bvals_zeros, bvals_drop, bvals_append, List.drop_replicate]
    unfold padB
    rw [hl]
  rw [ex] at h2
  refine ⟨_, _, _, w1, hm, _, w2, hcp, _, w2, row_string h2 List.mem_cons_self, ?_⟩
  have hp : (padB s.data.toList (size - 4)).length = size - 4 := padB_len (by omega)
  refine (sum_spec _ (by rw [strB_size, hp]; omega) _).mono fun e w3 ⟨he, hx⟩ => ⟨_, he, ?_⟩
  have h3 := h2.quiet hx
  refine bytes_spec _ h3 fun k4 w4 h4 => ⟨_, _, _, rfl, ?_⟩
  have hr4 := h4.says (x := rowP 5 1 (some k4) 4 4 _) List.mem_cons_self
  obtain ⟨g5, c5, w5, ha, h5⟩ := append_t (P := Try.prog) (t := 30) (ty := 30) (e := 5) (i := Try.t5) (z := .int .u8 0) (size := 1) #[false, false] (by kernel_rfl) (by kernel_rfl) (by kernel_rfl) (by kernel_rfl) (by rfl)
    h4 (.tail .head) (a := ⟨k4, 0, none⟩) (m := 4) (c := 4) (news := bvals (four (crcSum (padB s.data.toList (size - 4))))) (by rfl) (fun j u hu => by rw [addr_add, Nat.zero_add]; exact rowP.cell hr4 hu) (bvals_one _) (by simp only [maxLen]; omega)
    (by have : (Try.t5).bytes = 1 := by kernel_rfl
        rw [this]; omega)
  rw [bvals_append] at h5
  refine ⟨_, _, _, w5, ha, _, w5, row_string h5 List.mem_cons_self, rfl, h5.chg.ext⟩
end Go.Proofs.Ytdppllkjibfjcaa
