import Derived.Test.YtdppllkjibfjcaaDr10
/-! drive: Blank, full. -/
namespace Go.Proofs.Ytdppllkjibfjcaa
open Go.Sh
set_option linter.unusedVariables false
def zerosB (n : Nat) : ByteArray := ⟨Array.replicate n 0⟩
theorem zerosB_app (n : Nat) : zerosB n ++ ByteArray.mk #[0] = zerosB (n + 1) := by
  apply ByteArray.ext
  simp [zerosB, ByteArray.data_append, Array.replicate_succ]
def BlankI (w : World) (vs : List Value) (w' : World) : Prop := ∃ n : Nat, vs = [.string (zerosB n), .int .i64 n] ∧ n ≤ 64 ∧ Ext w w'
def BlankM (vs : List Value) (_ : World) : Nat := match vs with | [_, .int _ i] => (64 - i).toNat | _ => 0
theorem blank_spec (w : World) : Ret Try.prog 23 #[] w (.string zeroSec) := by
  refine ret_of (revetmentref04_Blank_calls ?_)
  unfold revetmentref04_Blank
  refine ⟨BlankI w, BlankM, ⟨0, rfl, by omega, .refl w⟩, ?_⟩
  rintro vs w' ⟨n, rfl, hn, hx⟩
  refine ⟨_, _, rfl, dec_t fun h => ⟨?_, ?_⟩, dec_f fun h => ?_⟩
  · show (((zerosB n).size + 1 : Nat) : Int) ≤ _
    have : (zerosB n).size = n := by show (Array.replicate n (0 : UInt8)).size = n; simp
    omega
  · rw [zerosB_app, wrap64 _ (by omega) (by omega)]
    exact ⟨⟨n + 1, rfl, by omega, hx⟩, by simp only [BlankM]; omega⟩
  · have : n = 64 := by omega
    subst this
    exact ⟨rfl, hx⟩
end Go.Proofs.Ytdppllkjibfjcaa
