import Derived.Test.YtdppllkjibfjcaaDr8
import Derived.Laws.MakeOwn
/-! drive: New. -/
namespace Go.Proofs.Ytdppllkjibfjcaa
open Go.Sh
set_option linter.unusedVariables false
set_option maxHeartbeats 1000000
set_option maxRecDepth 20000
def zeroSec : ByteArray := ⟨Array.replicate 64 0⟩
theorem zeroSec_size : zeroSec.size = 64 := rfl
theorem vals_zero : vals zeroSec = List.replicate 64 (.int .u8 0) := rfl
theorem flat_zero (n : Nat) : flat (List.replicate n zeroSec) = List.replicate (n * 64) (.int .u8 0) := by
  induction n with
  | zero => rfl
  | succ n ih =>
    have e : flat (List.replicate (n + 1) zeroSec) = vals zeroSec ++ flat (List.replicate n zeroSec) := rfl
    rw [e, ih, vals_zero, List.replicate_append_replicate]
    congr 1; omega
theorem made_zero (m : Nat) : madeCells (Array.replicate 64 (Value.int .u8 0)) m = Array.replicate m (.int .u8 0) := by
  apply Array.ext
  · simp [madeCells]
  · intro j h1 h2
    have : j % 64 < 64 := Nat.mod_lt _ (by decide)
    simp [madeCells, this]
theorem perm3 {α : Type} (a b c : α) (l : List α) : (a :: b :: c :: l).Perm (c :: b :: a :: l) := (List.Perm.swap b a _).trans (((List.Perm.swap c a _).cons b).trans (List.Perm.swap c b _))
structure NewD (n : Int) (D : DL) : Prop where
  safe : D.safe = List.replicate n.toNat zeroSec
  ws : D.ws = []
  sp : D.sp = []
  rest : D.dead = false ∧ D.left = 0 ∧ D.cut = false
theorem new_spec (n : Int) {F : List Nat} {w0 w : World} {X : List A} (hT : T F w0 w X) (hn : 1 ≤ n ∧ n ≤ 4096) :
    Calls Try.prog 13 #[.int .i64 n] w fun e w' => ∃ v, e = .returned v ∧ ∃ D, v = .pointer (some ⟨D.p, 0, none⟩) ∧ NewD n D ∧ T F w0 w' (X ++ drvL D) := by
  refine drive_New_calls ?_
  unfold drive_New
  refine ⟨dec_t fun h => absurd h (by omega), dec_f fun _ => ⟨dec_t fun h => absurd h (by omega), dec_f fun _ => ?_⟩⟩
  have hm := run_make (P := Try.prog) w 81 88 Try.t88 (.agg (Array.replicate 64 (.int .u8 0))) (by kernel_rfl) (by kernel_rfl) (by kernel_rfl) .i64 .i64 n n (by omega) (by omega) (by
    have hb : Try.t88.bytes = 64 := by kernel_rfl
    rw [hb]; omega) (by omega)
  have hsz : Try.t88.size = 64 := by kernel_rfl
  have hc : (Value.agg (Array.replicate 64 (Value.int .u8 0))).cells = Array.replicate 64 (Value.int .u8 0) := rfl
  rw [hsz, hc, made_zero] at hm
  have hT1 := hT.alloc (.cells (Array.replicate (n.toNat * 64) (Value.int .u8 0)) 88)
  have hT2 := T.fresh (size := 64) (n := n.toNat) hT1 (by simp) (by simp only [maxLen]; omega)
  refine ⟨_, _, _, _, hm, AllocM.t hT2 fun k11 w2 h2 => AllocM.t h2 fun k12 w3 h3 => Alloc.t h3 fun k14 w4 h4 => ⟨⟨k14, w.heap.size, k11, k12, List.replicate n.toNat zeroSec, [], 0, [], 0, false, 0, false⟩, rfl, ⟨rfl, rfl, rfl, rfl, rfl, rfl⟩, ?_⟩⟩
  have e : drvL ⟨k14, w.heap.size, k11, k12, List.replicate n.toNat zeroSec, [], 0, [], 0, false, 0, false⟩ = [blk k14 #[.slice (some ⟨w.heap.size, 0, none⟩) n.toNat n.toNat, .map (some k11), .map (some k12), .bool false, .int .i64 0, .bool false] 85,
    rowP 88 64 (some w.heap.size) n.toNat n.toNat (Array.replicate (n.toNat * 64) (Value.int .u8 0)).toList, mapP k11 [] 0, mapP k12 [] 0] := by
    simp only [drvL, List.length_replicate, flat_zero, Array.toList_replicate, List.map_nil, List.append_nil]
  rw [e]
  refine h4.swap (List.Perm.trans ?_ List.perm_append_comm)
  exact (perm3 _ _ _ _).cons _
end Go.Proofs.Ytdppllkjibfjcaa
