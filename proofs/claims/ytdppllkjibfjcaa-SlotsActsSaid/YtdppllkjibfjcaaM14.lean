import Derived.Test.YtdppllkjibfjcaaM9
import Derived.Test.YtdppllkjibfjcaaM13
section
/-! slots: two superblocks, cell by cell. PRINTED by wip/tools/slo1.py. -/
namespace Go.Proofs.Ytdppllkjibfjcaa
open Go.Sh Go.RowKit
set_option linter.unusedVariables false
set_option maxRecDepth 20000
set_option maxHeartbeats 1000000
def sup2C (a b : SupV) : Array Value := #[.int .u64 a.uuid, .int .u64 a.events, .int .i64 a.role, .int .i64 a.cols, .int .i64 a.chunk, .int .i64 a.rows, .bool a.clean, .int .i64 a.built, .int .i64 a.new, .int .i64 a.grown, .int .u64 b.uuid, .int .u64 b.events, .int .i64 b.role, .int .i64 b.cols, .int .i64 b.chunk, .int .i64 b.rows, .bool b.clean, .int .i64 b.built, .int .i64 b.new, .int .i64 b.grown]
theorem st20 {F : List Nat} {w0 w : World} {Γ : List A} {k : Nat} {t : TypeId} {a b c e : SupV} (hT : T F w0 w (blk k (sup2C a b) t :: Γ)) {K : World → Prop} (hK : ∀ w', T F w0 w' (blk k (sup2C c e) t :: Γ) → K w') :
    St ⟨k, 0, none⟩ (.int .u64 c.uuid) w fun w1 => St ⟨k, 1, none⟩ (.int .u64 c.events) w1 fun w2 => St ⟨k, 2, none⟩ (.int .i64 c.role) w2 fun w3 => St ⟨k, 3, none⟩ (.int .i64 c.cols) w3 fun w4 => St ⟨k, 4, none⟩ (.int .i64 c.chunk) w4 fun w5 => St ⟨k, 5, none⟩ (.int .i64 c.rows) w5 fun w6 => St ⟨k, 6, none⟩ (.bool c.clean) w6 fun w7 => St ⟨k, 7, none⟩ (.int .i64 c.built) w7 fun w8 => St ⟨k, 8, none⟩ (.int .i64 c.new) w8 fun w9 => St ⟨k, 9, none⟩ (.int .i64 c.grown) w9 fun w10 => St ⟨k, 10, none⟩ (.int .u64 e.uuid) w10 fun w11 => St ⟨k, 11, none⟩ (.int .u64 e.events) w11 fun w12 => St ⟨k, 12, none⟩ (.int .i64 e.role) w12 fun w13 => St ⟨k, 13, none⟩ (.int .i64 e.cols) w13 fun w14 => St ⟨k, 14, none⟩ (.int .i64 e.chunk) w14 fun w15 => St ⟨k, 15, none⟩ (.int .i64 e.rows) w15 fun w16 => St ⟨k, 16, none⟩ (.bool e.clean) w16 fun w17 => St ⟨k, 17, none⟩ (.int .i64 e.built) w17 fun w18 => St ⟨k, 18, none⟩ (.int .i64 e.new) w18 fun w19 => St ⟨k, 19, none⟩ (.int .i64 e.grown) w19 K := by
  have h0 : T F w0 w (blk k #[.int .u64 a.uuid, .int .u64 a.events, .int .i64 a.role, .int .i64 a.cols, .int .i64 a.chunk, .int .i64 a.rows, .bool a.clean, .int .i64 a.built, .int .i64 a.new, .int .i64 a.grown, .int .u64 b.uuid, .int .u64 b.events, .int .i64 b.role, .int .i64 b.cols, .int .i64 b.chunk, .int .i64 b.rows, .bool b.clean, .int .i64 b.built, .int .i64 b.new, .int .i64 b.grown] t :: Γ) := hT
  refine St.t (c' := #[.int .u64 c.uuid, .int .u64 a.events, .int .i64 a.role, .int .i64 a.cols, .int .i64 a.chunk, .int .i64 a.rows, .bool a.clean, .int .i64 a.built, .int .i64 a.new, .int .i64 a.grown, .int .u64 b.uuid, .int .u64 b.events, .int .i64 b.role, .int .i64 b.cols, .int .i64 b.chunk, .int .i64 b.rows, .bool b.clean, .int .i64 b.built, .int .i64 b.new, .int .i64 b.grown]) h0 .head (show 0 < 20 by decide) rfl rfl fun w1 h1 => ?_
  refine St.t (c' := #[.int .u64 c.uuid, .int .u64 c.events, .int .i64 a.role, .int .i64 a.cols, .int .i64 a.chunk, .int .i64 a.rows, .bool a.clean, .int .i64 a.built, .int .i64 a.new, .int .i64 a.grown, .int .u64 b.uuid, .int .u64 b.events, .int .i64 b.role, .int .i64 b.cols, .int .i64 b.chunk, .int .i64 b.rows, .bool b.clean, .int .i64 b.built, .int .i64 b.new, .int .i64 b.grown]) h1 .head (show 1 < 20 by decide) rfl rfl fun w2 h2 => ?_
  refine St.t (c' := #[.int .u64 c.uuid, .int .u64 c.events, .int .i64 c.role, .int .i64 a.cols, .int .i64 a.chunk, .int .i64 a.rows, .bool a.clean, .int .i64 a.built, .int .i64 a.new, .int .i64 a.grown, .int .u64 b.uuid, .int .u64 b.events, .int .i64 b.role, .int .i64 b.cols, .int .i64 b.chunk, .int .i64 b.rows, .bool b.clean, .int .i64 b.built, .int .i64 b.new, .int .i64 b.grown]) h2 .head (show 2 < 20 by decide) rfl rfl fun w3 h3 => ?_
  refine St.t (c' := #[.int .u64 c.uuid, .int .u64 c.events, .int .i64 c.role, .int .i64 c.cols, .int .i64 a.chunk, .int .i64 a.rows, .bool a.clean, .int .i64 a.built, .int .i64 a.new, .int .i64 a.grown, .int .u64 b.uuid, .int .u64 b.events, .int .i64 b.role, .int .i64 b.cols, .int .i64 b.chunk, .int .i64 b.rows, .bool b.clean, .int .i64 b.built, .int .i64 b.new, .int .i64 b.grown]) h3 .head (show 3 < 20 by decide) rfl rfl fun w4 h4 => ?_
  refine St.t (c' := #[.int .u64 c.uuid, .int .u64 c.events, .int .i64 c.role, .int .i64 c.cols, .int .i64 c.chunk, .int .i64 a.rows, .bool a.clean, .int .i64 a.built, .int .i64 a.new, .int .i64 a.grown, .int .u64 b.uuid, .int .u64 b.events, .int .i64 b.role, .int .i64 b.cols, .int .i64 b.chunk, .int .i64 b.rows, .bool b.clean, .int .i64 b.built, .int .i64 b.new, .int .i64 b.grown]) h4 .head (show 4 < 20 by decide) rfl rfl fun w5 h5 => ?_
  refine St.t (c' := #[.int .u64 c.uuid, .int .u64 c.events, .int .i64 c.role, .int .i64 c.cols, .int .i64 c.chunk, .int .i64 c.rows, .bool a.clean, .int .i64 a.built, .int .i64 a.new, .int .i64 a.grown, .int .u64 b.uuid, .int .u64 b.events, .int .i64 b.role, .int .i64 b.cols, .int .i64 b.chunk, .int .i64 b.rows, .bool b.clean, .int .i64 b.built, .int .i64 b.new, .int .i64 b.grown]) h5 .head (show 5 < 20 by decide) rfl rfl fun w6 h6 => ?_
  refine St.t (c' := #[.int .u64 c.uuid, .int .u64 c.events, .int .i64 c.role, .int .i64 c.cols, .int .i64 c.chunk, .int .i64 c.rows, .bool c.clean, .int .i64 a.built, .int .i64 a.new, .int .i64 a.grown, .int .u64 b.uuid, .int .u64 b.events, .int .i64 b.role, .int .i64 b.cols, .int .i64 b.chunk, .int .i64 b.rows, .bool b.clean, .int .i64 b.built, .int .i64 b.new, .int .i64 b.grown]) h6 .head (show 6 < 20 by decide) rfl rfl fun w7 h7 => ?_
  refine St.t (c' := #[.int .u64 c.uuid, .int .u64 c.events, .int .i64 c.role, .int .i64 c.cols, .int .i64 c.chunk, .int .i64 c.rows, .bool c.clean, .int .i64 c.built, .int .i64 a.new, .int .i64 a.grown, .int .u64 b.uuid, .int .u64 b.events, .int .i64 b.role, .int .i64 b.cols, .int .i64 b.chunk, .int .i64 b.rows, .bool b.clean, .int .i64 b.built, .int .i64 b.new, .int .i64 b.grown]) h7 .head (show 7 < 20 by decide) rfl rfl fun w8 h8 => ?_
  refine St.t (c' := #[.int .u64 c.uuid, .int .u64 c.events, .int .i64 c.role, .int .i64 c.cols, .int .i64 c.chunk, .int .i64 c.rows, .bool c.clean, .int .i64 c.built, .int .i64 c.new, .int .i64 a.grown, .int .u64 b.uuid, .int .u64 b.events, .int .i64 b.role, .int .i64 b.cols, .int .i64 b.chunk, .int .i64 b.rows, .bool b.clean, .int .i64 b.built, .int .i64 b.new, .int .i64 b.grown]) h8 .head (show 8 < 20 by decide) rfl rfl fun w9 h9 => ?_
  refine St.t (c' := #[.int .u64 c.uuid, .int .u64 c.events, .int .i64 c.role, .int .i64 c.cols, .int .i64 c.chunk, .int .i64 c.rows, .bool c.clean, .int .i64 c.built, .int .i64 c.new, .int .i64 c.grown, .int .u64 b.uuid, .int .u64 b.events, .int .i64 b.role, .int .i64 b.cols, .int .i64 b.chunk, .int .i64 b.rows, .bool b.clean, .int .i64 b.built, .int .i64 b.new, .int .i64 b.grown]) h9 .head (show 9 < 20 by decide) rfl rfl fun w10 h10 => ?_
  refine St.t (c' := #[.int .u64 c.uuid, .int .u64 c.events, .int .i64 c.role, .int .i64 c.cols, .int .i64 c.chunk, .int .i64 c.rows, .bool c.clean, .int .i64 c.built, .int .i64 c.new, .int .i64 c.grown, .int .u64 e.uuid, .int .u64 b.events, .int .i64 b.role, .int .i64 b.cols, .int .i64 b.chunk, .int .i64 b.rows, .bool b.clean, .int .i64 b.built, .int .i64 b.new, .int .i64 b.grown]) h10 .head (show 10 < 20 by decide) rfl rfl fun w11 h11 => ?_
  refine St.t (c' := #[.int .u64 c.uuid, .int .u64 c.events, .int .i64 c.role, .int .i64 c.cols, .int .i64 c.chunk, .int .i64 c.rows, .bool c.clean, .int .i64 c.built, .int .i64 c.new, .int .i64 c.grown, .int .u64 e.uuid, .int .u64 e.events, .int .i64 b.role, .int .i64 b.cols, .int .i64 b.chunk, .int .i64 b.rows, .bool b.clean, .int .i64 b.built, .int .i64 b.new, .int .i64 b.grown]) h11 .head (show 11 < 20 by decide) rfl rfl fun w12 h12 => ?_
  refine St.t (c' := #[.int .u64 c.uuid, .int .u64 c.events, .int .i64 c.role, .int .i64 c.cols, .int .i64 c.chunk, .int .i64 c.rows, .bool c.clean, .int .i64 c.built, .int .i64 c.new, .int .i64 c.grown, .int .u64 e.uuid, .int .u64 e.events, .int .i64 e.role, .int .i64 b.cols, .int .i64 b.chunk, .int .i64 b.rows, .bool b.clean, .int .i64 b.built, .int .i64 b.new, .int .i64 b.grown]) h12 .head (show 12 < 20 by decide) rfl rfl fun w13 h13 => ?_
  refine St.t (c' := #[.int .u64 c.uuid, .int .u64 c.events, .int .i64 c.role, .int .i64 c.cols, .int .i64 c.chunk, .int .i64 c.rows, .bool c.clean, .int .i64 c.built, .int .i64 c.new, .int .i64 c.grown, .int .u64 e.uuid, .int .u64 e.events, .int .i64 e.role, .int .i64 e.cols, .int .i64 b.chunk, .int .i64 b.rows, .bool b.clean, .int .i64 b.built, .int .i64 b.new, .int .i64 b.grown]) h13 .head (show 13 < 20 by decide) rfl rfl fun w14 h14 => ?_
  refine St.t (c' := #[.int .u64 c.uuid, .int .u64 c.events, .int .i64 c.role, .int .i64 c.cols, .int .i64 c.chunk, .int .i64 c.rows, .bool c.clean, .int .i64 c.built, .int .i64 c.new, .int .i64 c.grown, .int .u64 e.uuid, .int .u64 e.events, .int .i64 e.role, .int .i64 e.cols, .int .i64 e.chunk, .int .i64 b.rows, .bool b.clean, .int .i64 b.built, .int .i64 b.new, .int .i64 b.grown]) h14 .head (show 14 < 20 by decide) rfl rfl fun w15 h15 => ?_
  refine St.t (c' := #[.int .u64 c.uuid, .int .u64 c.events, .int .i64 c.role, .int .i64 c.cols, .int .i64 c.chunk, .int .i64 c.rows, .bool c.clean, .int .i64 c.built, .int .i64 c.new, .int .i64 c.grown, .int .u64 e.uuid, .int .u64 e.events, .int .i64 e.role, .int .i64 e.cols, .int .i64 e.chunk, .int .i64 e.rows, .bool b.clean, .int .i64 b.built, .int .i64 b.new, .int .i64 b.grown]) h15 .head (show 15 < 20 by decide) rfl rfl fun w16 h16 => ?_
  refine St.t (c' := #[.int .u64 c.uuid, .int .u64 c.events, .int .i64 c.role, .int .i64 c.cols, .int .i64 c.chunk, .int .i64 c.rows, .bool c.clean, .int .i64 c.built, .int .i64 c.new, .int .i64 c.grown, .int .u64 e.uuid, .int .u64 e.events, .int .i64 e.role, .int .i64 e.cols, .int .i64 e.chunk, .int .i64 e.rows, .bool e.clean, .int .i64 b.built, .int .i64 b.new, .int .i64 b.grown]) h16 .head (show 16 < 20 by decide) rfl rfl fun w17 h17 => ?_
  refine St.t (c' := #[.int .u64 c.uuid, .int .u64 c.events, .int .i64 c.role, .int .i64 c.cols, .int .i64 c.chunk, .int .i64 c.rows, .bool c.clean, .int .i64 c.built, .int .i64 c.new, .int .i64 c.grown, .int .u64 e.uuid, .int .u64 e.events, .int .i64 e.role, .int .i64 e.cols, .int .i64 e.chunk, .int .i64 e.rows, .bool e.clean, .int .i64 e.built, .int .i64 b.new, .int .i64 b.grown]) h17 .head (show 17 < 20 by decide) rfl rfl fun w18 h18 => ?_
  refine St.t (c' := #[.int .u64 c.uuid, .int .u64 c.events, .int .i64 c.role, .int .i64 c.cols, .int .i64 c.chunk, .int .i64 c.rows, .bool c.clean, .int .i64 c.built, .int .i64 c.new, .int .i64 c.grown, .int .u64 e.uuid, .int .u64 e.events, .int .i64 e.role, .int .i64 e.cols, .int .i64 e.chunk, .int .i64 e.rows, .bool e.clean, .int .i64 e.built, .int .i64 e.new, .int .i64 b.grown]) h18 .head (show 18 < 20 by decide) rfl rfl fun w19 h19 => ?_
  refine St.t (c' := #[.int .u64 c.uuid, .int .u64 c.events, .int .i64 c.role, .int .i64 c.cols, .int .i64 c.chunk, .int .i64 c.rows, .bool c.clean, .int .i64 c.built, .int .i64 c.new, .int .i64 c.grown, .int .u64 e.uuid, .int .u64 e.events, .int .i64 e.role, .int .i64 e.cols, .int .i64 e.chunk, .int .i64 e.rows, .bool e.clean, .int .i64 e.built, .int .i64 e.new, .int .i64 e.grown]) h19 .head (show 19 < 20 by decide) rfl rfl fun w20 h20 => ?_
  exact hK _ h20

theorem st10L {F : List Nat} {w0 w : World} {Γ : List A} {k : Nat} {t : TypeId} {a b c : SupV} (hT : T F w0 w (blk k (sup2C a b) t :: Γ)) {K : World → Prop} (hK : ∀ w', T F w0 w' (blk k (sup2C c b) t :: Γ) → K w') :
    St ⟨k, 0, none⟩ (.int .u64 c.uuid) w fun w1 => St ⟨k, 1, none⟩ (.int .u64 c.events) w1 fun w2 => St ⟨k, 2, none⟩ (.int .i64 c.role) w2 fun w3 => St ⟨k, 3, none⟩ (.int .i64 c.cols) w3 fun w4 => St ⟨k, 4, none⟩ (.int .i64 c.chunk) w4 fun w5 => St ⟨k, 5, none⟩ (.int .i64 c.rows) w5 fun w6 => St ⟨k, 6, none⟩ (.bool c.clean) w6 fun w7 => St ⟨k, 7, none⟩ (.int .i64 c.built) w7 fun w8 => St ⟨k, 8, none⟩ (.int .i64 c.new) w8 fun w9 => St ⟨k, 9, none⟩ (.int .i64 c.grown) w9 K := by
  have h0 : T F w0 w (blk k #[.int .u64 a.uuid, .int .u64 a.events, .int .i64 a.role, .int .i64 a.cols, .int .i64 a.chunk, .int .i64 a.rows, .bool a.clean, .int .i64 a.built, .int .i64 a.new, .int .i64 a.grown, .int .u64 b.uuid, .int .u64 b.events, .int .i64 b.role, .int .i64 b.cols, .int .i64 b.chunk, .int .i64 b.rows, .bool b.clean, .int .i64 b.built, .int .i64 b.new, .int .i64 b.grown] t :: Γ) := hT
  refine St.t (c' := #[.int .u64 c.uuid, .int .u64 a.events, .int .i64 a.role, .int .i64 a.cols, .int .i64 a.chunk, .int .i64 a.rows, .bool a.clean, .int .i64 a.built, .int .i64 a.new, .int .i64 a.grown, .int .u64 b.uuid, .int .u64 b.events, .int .i64 b.role, .int .i64 b.cols, .int .i64 b.chunk, .int .i64 b.rows, .bool b.clean, .int .i64 b.built, .int .i64 b.new, .int .i64 b.grown]) h0 .head (show 0 < 20 by decide) rfl rfl fun w1 h1 => ?_
  refine St.t (c' := #[.int .u64 c.uuid, .int .u64 c.events, .int .i64 a.role, .int .i64 a.cols, .int .i64 a.chunk, .int .i64 a.rows, .bool a.clean, .int .i64 a.built, .int .i64 a.new, .int .i64 a.grown, .int .u64 b.uuid, .int .u64 b.events, .int .i64 b.role, .int .i64 b.cols, .int .i64 b.chunk, .int .i64 b.rows, .bool b.clean, .int .i64 b.built, .int .i64 b.new, .int .i64 b.grown]) h1 .head (show 1 < 20 by decide) rfl rfl fun w2 h2 => ?_
  refine St.t (c' := #[.int .u64 c.uuid, .int .u64 c.events, .int .i64 c.role, .int .i64 a.cols, .int .i64 a.chunk, .int .i64 a.rows, .bool a.clean, .int .i64 a.built, .int .i64 a.new, .int .i64 a.grown, .int .u64 b.uuid, .int .u64 b.events, .int .i64 b.role, .int .i64 b.cols, .int .i64 b.chunk, .int .i64 b.rows, .bool b.clean, .int .i64 b.built, .int .i64 b.new, .int .i64 b.grown]) h2 .head (show 2 < 20 by decide) rfl rfl fun w3 h3 => ?_
  refine St.t (c' := #[.int .u64 c.uuid, .int .u64 c.events, .int .i64 c.role, .int .i64 c.cols, .int .i64 a.chunk, .int .i64 a.rows, .bool a.clean, .int .i64 a.built, .int .i64 a.new, .int .i64 a.grown, .int .u64 b.uuid, .int .u64 b.events, .int .i64 b.role, .int .i64 b.cols, .int .i64 b.chunk, .int .i64 b.rows, .bool b.clean, .int .i64 b.built, .int .i64 b.new, .int .i64 b.grown]) h3 .head (show 3 < 20 by decide) rfl rfl fun w4 h4 => ?_
  refine St.t (c' := #[.int .u64 c.uuid, .int .u64 c.events, .int .i64 c.role, .int .i64 c.cols, .int .i64 c.chunk, .int .i64 a.rows, .bool a.clean, .int .i64 a.built, .int .i64 a.new, .int .i64 a.grown, .int .u64 b.uuid, .int .u64 b.events, .int .i64 b.role, .int .i64 b.cols, .int .i64 b.chunk, .int .i64 b.rows, .bool b.clean, .int .i64 b.built, .int .i64 b.new, .int .i64 b.grown]) h4 .head (show 4 < 20 by decide) rfl rfl fun w5 h5 => ?_
  refine St.t (c' := #[.int .u64 c.uuid, .int .u64 c.events, .int .i64 c.role, .int .i64 c.cols, .int .i64 c.chunk, .int .i64 c.rows, .bool a.clean, .int .i64 a.built, .int .i64 a.new, .int .i64 a.grown, .int .u64 b.uuid, .int .u64 b.events, .int .i64 b.role, .int .i64 b.cols, .int .i64 b.chunk, .int .i64 b.rows, .bool b.clean, .int .i64 b.built, .int .i64 b.new, .int .i64 b.grown]) h5 .head (show 5 < 20 by decide) rfl rfl fun w6 h6 => ?_
  refine St.t (c' := #[.int .u64 c.uuid, .int .u64 c.events, .int .i64 c.role, .int .i64 c.cols, .int .i64 c.chunk, .int .i64 c.rows, .bool c.clean, .int .i64 a.built, .int .i64 a.new, .int .i64 a.grown, .int .u64 b.uuid, .int .u64 b.events, .int .i64 b.role, .int .i64 b.cols, .int .i64 b.chunk, .int .i64 b.rows, .bool b.clean, .int .i64 b.built, .int .i64 b.new, .int .i64 b.grown]) h6 .head (show 6 < 20 by decide) rfl rfl fun w7 h7 => ?_
  refine St.t (c' := #[.int .u64 c.uuid, .int .u64 c.events, .int .i64 c.role, .int .i64 c.cols, .int .i64 c.chunk, .int .i64 c.rows, .bool c.clean, .int .i64 c.built, .int .i64 a.new, .int .i64 a.grown, .int .u64 b.uuid, .int .u64 b.events, .int .i64 b.role, .int .i64 b.cols, .int .i64 b.chunk, .int .i64 b.rows, .bool b.clean, .int .i64 b.built, .int .i64 b.new, .int .i64 b.grown]) h7 .head (show 7 < 20 by decide) rfl rfl fun w8 h8 => ?_
  refine St.t (c' := #[.int .u64 c.uuid, .int .u64 c.events, .int .i64 c.role, .int .i64 c.cols, .int .i64 c.chunk, .int .i64 c.rows, .bool c.clean, .int .i64 c.built, .int .i64 c.new, .int .i64 a.grown, .int .u64 b.uuid, .int .u64 b.events, .int .i64 b.role, .int .i64 b.cols, .int .i64 b.chunk, .int .i64 b.rows, .bool b.clean, .int .i64 b.built, .int .i64 b.new, .int .i64 b.grown]) h8 .head (show 8 < 20 by decide) rfl rfl fun w9 h9 => ?_
  refine St.t (c' := #[.int .u64 c.uuid, .int .u64 c.events, .int .i64 c.role, .int .i64 c.cols, .int .i64 c.chunk, .int .i64 c.rows, .bool c.clean, .int .i64 c.built, .int .i64 c.new, .int .i64 c.grown, .int .u64 b.uuid, .int .u64 b.events, .int .i64 b.role, .int .i64 b.cols, .int .i64 b.chunk, .int .i64 b.rows, .bool b.clean, .int .i64 b.built, .int .i64 b.new, .int .i64 b.grown]) h9 .head (show 9 < 20 by decide) rfl rfl fun w10 h10 => ?_
  exact hK _ h10

theorem st10R {F : List Nat} {w0 w : World} {Γ : List A} {k : Nat} {t : TypeId} {a b c : SupV} (hT : T F w0 w (blk k (sup2C a b) t :: Γ)) {K : World → Prop} (hK : ∀ w', T F w0 w' (blk k (sup2C a c) t :: Γ) → K w') :
    St ⟨k, 10, none⟩ (.int .u64 c.uuid) w fun w1 => St ⟨k, 11, none⟩ (.int .u64 c.events) w1 fun w2 => St ⟨k, 12, none⟩ (.int .i64 c.role) w2 fun w3 => St ⟨k, 13, none⟩ (.int .i64 c.cols) w3 fun w4 => St ⟨k, 14, none⟩ (.int .i64 c.chunk) w4 fun w5 => St ⟨k, 15, none⟩ (.int .i64 c.rows) w5 fun w6 => St ⟨k, 16, none⟩ (.bool c.clean) w6 fun w7 => St ⟨k, 17, none⟩ (.int .i64 c.built) w7 fun w8 => St ⟨k, 18, none⟩ (.int .i64 c.new) w8 fun w9 => St ⟨k, 19, none⟩ (.int .i64 c.grown) w9 K := by
  have h0 : T F w0 w (blk k #[.int .u64 a.uuid, .int .u64 a.events, .int .i64 a.role, .int .i64 a.cols, .int .i64 a.chunk, .int .i64 a.rows, .bool a.clean, .int .i64 a.built, .int .i64 a.new, .int .i64 a.grown, .int .u64 b.uuid, .int .u64 b.events, .int .i64 b.role, .int .i64 b.cols, .int .i64 b.chunk, .int .i64 b.rows, .bool b.clean, .int .i64 b.built, .int .i64 b.new, .int .i64 b.grown] t :: Γ) := hT
  refine St.t (c' := #[.int .u64 a.uuid, .int .u64 a.events, .int .i64 a.role, .int .i64 a.cols, .int .i64 a.chunk, .int .i64 a.rows, .bool a.clean, .int .i64 a.built, .int .i64 a.new, .int .i64 a.grown, .int .u64 c.uuid, .int .u64 b.events, .int .i64 b.role, .int .i64 b.cols, .int .i64 b.chunk, .int .i64 b.rows, .bool b.clean, .int .i64 b.built, .int .i64 b.new, .int .i64 b.grown]) h0 .head (show 10 < 20 by decide) rfl rfl fun w1 h1 => ?_
  refine St.t (c' := #[.int .u64 a.uuid, .int .u64 a.events, .int .i64 a.role, .int .i64 a.cols, .int .i64 a.chunk, .int .i64 a.rows, .bool a.clean, .int .i64 a.built, .int .i64 a.new, .int .i64 a.grown, .int .u64 c.uuid, .int .u64 c.events, .int .i64 b.role, .int .i64 b.cols, .int .i64 b.chunk, .int .i64 b.rows, .bool b.clean, .int .i64 b.built, .int .i64 b.new, .int .i64 b.grown]) h1 .head (show 11 < 20 by decide) rfl rfl fun w2 h2 => ?_
  refine St.t (c' := #[.int .u64 a.uuid, .int .u64 a.events, .int .i64 a.role, .int .i64 a.cols, .int .i64 a.chunk, .int .i64 a.rows, .bool a.clean, .int .i64 a.built, .int .i64 a.new, .int .i64 a.grown, .int .u64 c.uuid, .int .u64 c.events, .int .i64 c.role, .int .i64 b.cols, .int .i64 b.chunk, .int .i64 b.rows, .bool b.clean, .int .i64 b.built, .int .i64 b.new, .int .i64 b.grown]) h2 .head (show 12 < 20 by decide) rfl rfl fun w3 h3 => ?_
  refine St.t (c' := #[.int .u64 a.uuid, .int .u64 a.events, .int .i64 a.role, .int .i64 a.cols, .int .i64 a.chunk, .int .i64 a.rows, .bool a.clean, .int .i64 a.built, .int .i64 a.new, .int .i64 a.grown, .int .u64 c.uuid, .int .u64 c.events, .int .i64 c.role, .int .i64 c.cols, .int .i64 b.chunk, .int .i64 b.rows, .bool b.clean, .int .i64 b.built, .int .i64 b.new, .int .i64 b.grown]) h3 .head (show 13 < 20 by decide) rfl rfl fun w4 h4 => ?_
  refine St.t (c' := #[.int .u64 a.uuid, .int .u64 a.events, .int .i64 a.role, .int .i64 a.cols, .int .i64 a.chunk, .int .i64 a.rows, .bool a.clean, .int .i64 a.built, .int .i64 a.new, .int .i64 a.grown, .int .u64 c.uuid, .int .u64 c.events, .int .i64 c.role, .int .i64 c.cols, .int .i64 c.chunk, .int .i64 b.rows, .bool b.clean, .int .i64 b.built, .int .i64 b.new, .int .i64 b.grown]) h4 .head (show 14 < 20 by decide) rfl rfl fun w5 h5 => ?_
  refine St.t (c' := #[.int .u64 a.uuid, .int .u64 a.events, .int .i64 a.role, .int .i64 a.cols, .int .i64 a.chunk, .int .i64 a.rows, .bool a.clean, .int .i64 a.built, .int .i64 a.new, .int .i64 a.grown, .int .u64 c.uuid, .int .u64 c.events, .int .i64 c.role, .int .i64 c.cols, .int .i64 c.chunk, .int .i64 c.rows, .bool b.clean, .int .i64 b.built, .int .i64 b.new, .int .i64 b.grown]) h5 .head (show 15 < 20 by decide) rfl rfl fun w6 h6 => ?_
  refine St.t (c' := #[.int .u64 a.uuid, .int .u64 a.events, .int .i64 a.role, .int .i64 a.cols, .int .i64 a.chunk, .int .i64 a.rows, .bool a.clean, .int .i64 a.built, .int .i64 a.new, .int .i64 a.grown, .int .u64 c.uuid, .int .u64 c.events, .int .i64 c.role, .int .i64 c.cols, .int .i64 c.chunk, .int .i64 c.rows, .bool c.clean, .int .i64 b.built, .int .i64 b.new, .int .i64 b.grown]) h6 .head (show 16 < 20 by decide) rfl rfl fun w7 h7 => ?_
  refine St.t (c' := #[.int .u64 a.uuid, .int .u64 a.events, .int .i64 a.role, .int .i64 a.cols, .int .i64 a.chunk, .int .i64 a.rows, .bool a.clean, .int .i64 a.built, .int .i64 a.new, .int .i64 a.grown, .int .u64 c.uuid, .int .u64 c.events, .int .i64 c.role, .int .i64 c.cols, .int .i64 c.chunk, .int .i64 c.rows, .bool c.clean, .int .i64 c.built, .int .i64 b.new, .int .i64 b.grown]) h7 .head (show 17 < 20 by decide) rfl rfl fun w8 h8 => ?_
  refine St.t (c' := #[.int .u64 a.uuid, .int .u64 a.events, .int .i64 a.role, .int .i64 a.cols, .int .i64 a.chunk, .int .i64 a.rows, .bool a.clean, .int .i64 a.built, .int .i64 a.new, .int .i64 a.grown, .int .u64 c.uuid, .int .u64 c.events, .int .i64 c.role, .int .i64 c.cols, .int .i64 c.chunk, .int .i64 c.rows, .bool c.clean, .int .i64 c.built, .int .i64 c.new, .int .i64 b.grown]) h8 .head (show 18 < 20 by decide) rfl rfl fun w9 h9 => ?_
  refine St.t (c' := #[.int .u64 a.uuid, .int .u64 a.events, .int .i64 a.role, .int .i64 a.cols, .int .i64 a.chunk, .int .i64 a.rows, .bool a.clean, .int .i64 a.built, .int .i64 a.new, .int .i64 a.grown, .int .u64 c.uuid, .int .u64 c.events, .int .i64 c.role, .int .i64 c.cols, .int .i64 c.chunk, .int .i64 c.rows, .bool c.clean, .int .i64 c.built, .int .i64 c.new, .int .i64 c.grown]) h9 .head (show 19 < 20 by decide) rfl rfl fun w10 h10 => ?_
  exact hK _ h10

theorem rd20 {F : List Nat} {w0 w : World} {Γ : List A} {k : Nat} {t : TypeId} {a b : SupV} (h : T F w0 w Γ) (hm : blk k (sup2C a b) t ∈ Γ) {Q : Int → Int → Int → Int → Int → Int → Bool → Int → Int → Int → Int → Int → Int → Int → Int → Int → Bool → Int → Int → Int → Prop} (hQ : Q a.uuid a.events a.role a.cols a.chunk a.rows a.clean a.built a.new a.grown b.uuid b.events b.role b.cols b.chunk b.rows b.clean b.built b.new b.grown) :
    ∃ n0 : Int, ∃ n1 : Int, ∃ n2 : Int, ∃ n3 : Int, ∃ n4 : Int, ∃ n5 : Int, ∃ n6 : Bool, ∃ n7 : Int, ∃ n8 : Int, ∃ n9 : Int, ∃ n10 : Int, ∃ n11 : Int, ∃ n12 : Int, ∃ n13 : Int, ∃ n14 : Int, ∃ n15 : Int, ∃ n16 : Bool, ∃ n17 : Int, ∃ n18 : Int, ∃ n19 : Int, (w.cell? ⟨k, 0, none⟩ = some (.int .u64 n0) ∧ w.cell? ⟨k, 1, none⟩ = some (.int .u64 n1) ∧ w.cell? ⟨k, 2, none⟩ = some (.int .i64 n2) ∧ w.cell? ⟨k, 3, none⟩ = some (.int .i64 n3) ∧ w.cell? ⟨k, 4, none⟩ = some (.int .i64 n4) ∧ w.cell? ⟨k, 5, none⟩ = some (.int .i64 n5) ∧ w.cell? ⟨k, 6, none⟩ = some (.bool n6) ∧ w.cell? ⟨k, 7, none⟩ = some (.int .i64 n7) ∧ w.cell? ⟨k, 8, none⟩ = some (.int .i64 n8) ∧ w.cell? ⟨k, 9, none⟩ = some (.int .i64 n9) ∧ w.cell? ⟨k, 10, none⟩ = some (.int .u64 n10) ∧ w.cell? ⟨k, 11, none⟩ = some (.int .u64 n11) ∧ w.cell? ⟨k, 12, none⟩ = some (.int .i64 n12) ∧ w.cell? ⟨k, 13, none⟩ = some (.int .i64 n13) ∧ w.cell? ⟨k, 14, none⟩ = some (.int .i64 n14) ∧ w.cell? ⟨k, 15, none⟩ = some (.int .i64 n15) ∧ w.cell? ⟨k, 16, none⟩ = some (.bool n16) ∧ w.cell? ⟨k, 17, none⟩ = some (.int .i64 n17) ∧ w.cell? ⟨k, 18, none⟩ = some (.int .i64 n18) ∧ w.cell? ⟨k, 19, none⟩ = some (.int .i64 n19)) ∧ Q n0 n1 n2 n3 n4 n5 n6 n7 n8 n9 n10 n11 n12 n13 n14 n15 n16 n17 n18 n19 :=
  ⟨_, _, _, _, _, _, _, _, _, _, _, _, _, _, _, _, _, _, _, _, ⟨h.ld hm rfl, h.ld hm rfl, h.ld hm rfl, h.ld hm rfl, h.ld hm rfl, h.ld hm rfl, h.ld hm rfl, h.ld hm rfl, h.ld hm rfl, h.ld hm rfl, h.ld hm rfl, h.ld hm rfl, h.ld hm rfl, h.ld hm rfl, h.ld hm rfl, h.ld hm rfl, h.ld hm rfl, h.ld hm rfl, h.ld hm rfl, h.ld hm rfl⟩, hQ⟩

theorem rd10L {F : List Nat} {w0 w : World} {Γ : List A} {k : Nat} {t : TypeId} {a b : SupV} (h : T F w0 w Γ) (hm : blk k (sup2C a b) t ∈ Γ) {Q : Int → Int → Int → Int → Int → Int → Bool → Int → Int → Int → Prop} (hQ : Q a.uuid a.events a.role a.cols a.chunk a.rows a.clean a.built a.new a.grown) :
    ∃ n0 : Int, ∃ n1 : Int, ∃ n2 : Int, ∃ n3 : Int, ∃ n4 : Int, ∃ n5 : Int, ∃ n6 : Bool, ∃ n7 : Int, ∃ n8 : Int, ∃ n9 : Int, (w.cell? ⟨k, 0, none⟩ = some (.int .u64 n0) ∧ w.cell? ⟨k, 1, none⟩ = some (.int .u64 n1) ∧ w.cell? ⟨k, 2, none⟩ = some (.int .i64 n2) ∧ w.cell? ⟨k, 3, none⟩ = some (.int .i64 n3) ∧ w.cell? ⟨k, 4, none⟩ = some (.int .i64 n4) ∧ w.cell? ⟨k, 5, none⟩ = some (.int .i64 n5) ∧ w.cell? ⟨k, 6, none⟩ = some (.bool n6) ∧ w.cell? ⟨k, 7, none⟩ = some (.int .i64 n7) ∧ w.cell? ⟨k, 8, none⟩ = some (.int .i64 n8) ∧ w.cell? ⟨k, 9, none⟩ = some (.int .i64 n9)) ∧ Q n0 n1 n2 n3 n4 n5 n6 n7 n8 n9 :=
  ⟨_, _, _, _, _, _, _, _, _, _, ⟨h.ld hm rfl, h.ld hm rfl, h.ld hm rfl, h.ld hm rfl, h.ld hm rfl, h.ld hm rfl, h.ld hm rfl, h.ld hm rfl, h.ld hm rfl, h.ld hm rfl⟩, hQ⟩

theorem rd10R {F : List Nat} {w0 w : World} {Γ : List A} {k : Nat} {t : TypeId} {a b : SupV} (h : T F w0 w Γ) (hm : blk k (sup2C a b) t ∈ Γ) {Q : Int → Int → Int → Int → Int → Int → Bool → Int → Int → Int → Prop} (hQ : Q b.uuid b.events b.role b.cols b.chunk b.rows b.clean b.built b.new b.grown) :
    ∃ n0 : Int, ∃ n1 : Int, ∃ n2 : Int, ∃ n3 : Int, ∃ n4 : Int, ∃ n5 : Int, ∃ n6 : Bool, ∃ n7 : Int, ∃ n8 : Int, ∃ n9 : Int, (w.cell? ⟨k, 10, none⟩ = some (.int .u64 n0) ∧ w.cell? ⟨k, 11, none⟩ = some (.int .u64 n1) ∧ w.cell? ⟨k, 12, none⟩ = some (.int .i64 n2) ∧ w.cell? ⟨k, 13, none⟩ = some (.int .i64 n3) ∧ w.cell? ⟨k, 14, none⟩ = some (.int .i64 n4) ∧ w.cell? ⟨k, 15, none⟩ = some (.int .i64 n5) ∧ w.cell? ⟨k, 16, none⟩ = some (.bool n6) ∧ w.cell? ⟨k, 17, none⟩ = some (.int .i64 n7) ∧ w.cell? ⟨k, 18, none⟩ = some (.int .i64 n8) ∧ w.cell? ⟨k, 19, none⟩ = some (.int .i64 n9)) ∧ Q n0 n1 n2 n3 n4 n5 n6 n7 n8 n9 :=
  ⟨_, _, _, _, _, _, _, _, _, _, ⟨h.ld hm rfl, h.ld hm rfl, h.ld hm rfl, h.ld hm rfl, h.ld hm rfl, h.ld hm rfl, h.ld hm rfl, h.ld hm rfl, h.ld hm rfl, h.ld hm rfl⟩, hQ⟩

theorem rd20D {D : World → Prop} {k : Nat} {t : TypeId} {a b : SupV} (h : ∀ w, D w → ∃ (F : List Nat) (w0 : World) (Γ : List A), T F w0 w Γ ∧ blk k (sup2C a b) t ∈ Γ) {Q : Int → Int → Int → Int → Int → Int → Bool → Int → Int → Int → Int → Int → Int → Int → Int → Int → Bool → Int → Int → Int → Prop} (hQ : Q a.uuid a.events a.role a.cols a.chunk a.rows a.clean a.built a.new a.grown b.uuid b.events b.role b.cols b.chunk b.rows b.clean b.built b.new b.grown) :
    ∃ n0 : Int, ∃ n1 : Int, ∃ n2 : Int, ∃ n3 : Int, ∃ n4 : Int, ∃ n5 : Int, ∃ n6 : Bool, ∃ n7 : Int, ∃ n8 : Int, ∃ n9 : Int, ∃ n10 : Int, ∃ n11 : Int, ∃ n12 : Int, ∃ n13 : Int, ∃ n14 : Int, ∃ n15 : Int, ∃ n16 : Bool, ∃ n17 : Int, ∃ n18 : Int, ∃ n19 : Int, (∀ w, D w → w.cell? ⟨k, 0, none⟩ = some (.int .u64 n0) ∧ w.cell? ⟨k, 1, none⟩ = some (.int .u64 n1) ∧ w.cell? ⟨k, 2, none⟩ = some (.int .i64 n2) ∧ w.cell? ⟨k, 3, none⟩ = some (.int .i64 n3) ∧ w.cell? ⟨k, 4, none⟩ = some (.int .i64 n4) ∧ w.cell? ⟨k, 5, none⟩ = some (.int .i64 n5) ∧ w.cell? ⟨k, 6, none⟩ = some (.bool n6) ∧ w.cell? ⟨k, 7, none⟩ = some (.int .i64 n7) ∧ w.cell? ⟨k, 8, none⟩ = some (.int .i64 n8) ∧ w.cell? ⟨k, 9, none⟩ = some (.int .i64 n9) ∧ w.cell? ⟨k, 10, none⟩ = some (.int .u64 n10) ∧ w.cell? ⟨k, 11, none⟩ = some (.int .u64 n11) ∧ w.cell? ⟨k, 12, none⟩ = some (.int .i64 n12) ∧ w.cell? ⟨k, 13, none⟩ = some (.int .i64 n13) ∧ w.cell? ⟨k, 14, none⟩ = some (.int .i64 n14) ∧ w.cell? ⟨k, 15, none⟩ = some (.int .i64 n15) ∧ w.cell? ⟨k, 16, none⟩ = some (.bool n16) ∧ w.cell? ⟨k, 17, none⟩ = some (.int .i64 n17) ∧ w.cell? ⟨k, 18, none⟩ = some (.int .i64 n18) ∧ w.cell? ⟨k, 19, none⟩ = some (.int .i64 n19)) ∧ Q n0 n1 n2 n3 n4 n5 n6 n7 n8 n9 n10 n11 n12 n13 n14 n15 n16 n17 n18 n19 :=
  ⟨_, _, _, _, _, _, _, _, _, _, _, _, _, _, _, _, _, _, _, _, fun w hd => by
    obtain ⟨F, w0, Γ, h, hm⟩ := h w hd
    exact ⟨h.ld hm rfl, h.ld hm rfl, h.ld hm rfl, h.ld hm rfl, h.ld hm rfl, h.ld hm rfl, h.ld hm rfl, h.ld hm rfl, h.ld hm rfl, h.ld hm rfl, h.ld hm rfl, h.ld hm rfl, h.ld hm rfl, h.ld hm rfl, h.ld hm rfl, h.ld hm rfl, h.ld hm rfl, h.ld hm rfl, h.ld hm rfl, h.ld hm rfl⟩, hQ⟩

theorem rd10D {D : World → Prop} {k : Nat} {t : TypeId} {a : SupV} (h : ∀ w, D w → ∃ (F : List Nat) (w0 : World) (Γ : List A), T F w0 w Γ ∧ blk k (supC a) t ∈ Γ) {Q : Int → Int → Int → Int → Int → Int → Bool → Int → Int → Int → Prop} (hQ : Q a.uuid a.events a.role a.cols a.chunk a.rows a.clean a.built a.new a.grown) :
    ∃ n0 : Int, ∃ n1 : Int, ∃ n2 : Int, ∃ n3 : Int, ∃ n4 : Int, ∃ n5 : Int, ∃ n6 : Bool, ∃ n7 : Int, ∃ n8 : Int, ∃ n9 : Int, (∀ w, D w → w.cell? ⟨k, 0, none⟩ = some (.int .u64 n0) ∧ w.cell? ⟨k, 1, none⟩ = some (.int .u64 n1) ∧ w.cell? ⟨k, 2, none⟩ = some (.int .i64 n2) ∧ w.cell? ⟨k, 3, none⟩ = some (.int .i64 n3) ∧ w.cell? ⟨k, 4, none⟩ = some (.int .i64 n4) ∧ w.cell? ⟨k, 5, none⟩ = some (.int .i64 n5) ∧ w.cell? ⟨k, 6, none⟩ = some (.bool n6) ∧ w.cell? ⟨k, 7, none⟩ = some (.int .i64 n7) ∧ w.cell? ⟨k, 8, none⟩ = some (.int .i64 n8) ∧ w.cell? ⟨k, 9, none⟩ = some (.int .i64 n9)) ∧ Q n0 n1 n2 n3 n4 n5 n6 n7 n8 n9 :=
  ⟨_, _, _, _, _, _, _, _, _, _, fun w hd => by
    obtain ⟨F, w0, Γ, h, hm⟩ := h w hd
    exact ⟨h.ld hm rfl, h.ld hm rfl, h.ld hm rfl, h.ld hm rfl, h.ld hm rfl, h.ld hm rfl, h.ld hm rfl, h.ld hm rfl, h.ld hm rfl, h.ld hm rfl⟩, hQ⟩

end Go.Proofs.Ytdppllkjibfjcaa
end
section
/-! slots: Save, Both, Load. -/
namespace Go.Proofs.Ytdppllkjibfjcaa
open Go.Sh Go.RowKit
set_option linter.unusedVariables false
set_option maxRecDepth 20000
set_option linter.unusedSimpArgs false
set_option maxHeartbeats 1000000
/-- what Both tells of a slot -/
def slotF (a : AD) (i : Int) : SupV × Bool := if (a.read i).2 = 0 ∧ (decF (a.read i).1.data.toList).2 = 0 then ((decF (a.read i).1.data.toList).1, true) else (sup0, false)
/-- what lies in a slot -/
inductive SlotAt (a : AD) (i : Int) : SupV → Bool → Prop
  | none (h : (a.read i).2 ≠ 0) : SlotAt a i sup0 false
  | bad (t : ByteArray) (h : a.read i = (t, 0)) (hs : t.size = 64) (hb : t.data.toList.getD 0 0 ≠ 82) : SlotAt a i sup0 false
  | good (s : SupV) (h : a.read i = (strB (encS s), 0)) (hm : MayS s) : SlotAt a i s true
  | any : SlotAt a i (slotF a i).1 (slotF a i).2
theorem SlotAt.dec {a : AD} {i : Int} {s : SupV} {b : Bool} (h : SlotAt a i s b) : ((a.read i).2 ≠ 0 ∧ s = sup0 ∧ b = false) ∨ ∃ (t : ByteArray) (n : Int), a.read i = (t, 0) ∧ (∀ w, Ret Try.prog 66 #[.string t] w (.tuple #[.agg (supC s), .int .i64 n])) ∧ (n == 0) = b ∧ (b = false → s = sup0) := by
  cases h with
  | none h => exact .inl ⟨h, rfl, rfl⟩
  | bad t h hs hb => exact .inr ⟨t, _, h, fun w => decode_bad hs hb w, by simpa using badE_ne _, fun _ => rfl⟩
  | good s h hm => exact .inr ⟨_, 0, h, fun w => decode_good hm w, rfl, fun e => (by cases e)⟩
  | any =>
    by_cases h0 : (a.read i).2 = 0
    · refine .inr ⟨(a.read i).1, (decF (a.read i).1.data.toList).2, Prod.ext rfl h0, fun w => ?_, ?_, fun hb => ?_⟩
      · have := decodeF_spec (a.read i).1 w
        by_cases hn : (decF (a.read i).1.data.toList).2 = 0
        · unfold slotF; rw [if_pos ⟨h0, hn⟩]; exact this
        · unfold slotF; rw [if_neg (fun h => hn h.2)]; rw [decF_zero _ hn] at this; exact this
      · unfold slotF
        by_cases hn : (decF (a.read i).1.data.toList).2 = 0
        · rw [if_pos ⟨h0, hn⟩, hn]; rfl
        · rw [if_neg (fun h => hn h.2)]; simpa using hn
      · unfold slotF at hb ⊢
        split
        · rename_i h; rw [if_pos h] at hb; cases hb
        · rfl
    · refine .inl ⟨h0, ?_, ?_⟩ <;> unfold slotF <;> rw [if_neg (fun h => h0 h.1)]
theorem save_u {p : Nat} {a : AD} {F : List Nat} {w0 w : World} {X : List A} {Φ : Ending → World → Prop} (h : Dr p a F w0 w X) (hF : a.Few 1000000) {n : Nat} (hon : a.On n) (hn : 2 ≤ n) {s : SupV} (hm : MayS s) (hF2 : (a.write (s.events % 2) (strB (encS s))).Few 1000000)
    (hk : ∀ w', Dr p (a.write (s.events % 2) (strB (encS s))).flush F w0 w' X → Φ (.returned (.int .i64 0)) w') :
    Calls Try.prog 35 #[.pointer (some ⟨p, 0, none⟩), .agg (supC s)] w Φ := by
  refine (slots_Save_calls (R := fun v w' => v = .int .i64 0 ∧ Dr p (a.write (s.events % 2) (strB (encS s))).flush F w0 w' X) ?_).mono fun e w' ⟨v, he, hv, hd⟩ => by rw [he, hv]; exact hk w' hd
  unfold slots_Save
  refine Alloc.t (T.nil w) fun k3 w1 h1 => ?_
  have h1 : T [] w w1 [blk k3 (supC s) 58] := h1
  refine rd10 h1 List.mem_cons_self ?_
  refine (sencode_spec hm w1).mono fun e w2 ⟨he, hx2⟩ => ⟨_, _, he, no rfl ?_⟩
  have h2 := h1.quiet hx2
  have hd2 := h.quiet h2.chg.ext
  have he := hm.events
  have hev : IntKind.i64.wrap (bits2 .and .u64 s.events 1) = s.events % 2 := by
    have e : ∀ n : Nat, BitVec.ofInt 64 (n : Int) = BitVec.ofNat 64 n := fun n => by simp
    obtain ⟨m, hm⟩ : ∃ m : Nat, s.events = (m : Int) := ⟨s.events.toNat, by omega⟩
    rw [hm] at he ⊢
    have h0 : bits2 .and .u64 (m : Int) 1 = IntKind.u64.wrap (((BitVec.ofNat 64 m &&& BitVec.ofNat 64 1).toNat : Nat) : Int) := by
      have := e 1
      unfold bits2
      simp only [IntKind.bits, e]
      rfl
    rw [h0, BitVec.toNat_and, BitVec.toNat_ofNat, BitVec.toNat_ofNat, Nat.mod_eq_of_lt (by omega), show 1 % 2 ^ 64 = 1 from rfl, Nat.and_one_is_mod, wrapU64]
    rw [wrap64 _ (by omega) (by omega)]
    omega
  refine ⟨_, h2.ld List.mem_cons_self rfl, ?_⟩
  rw [hev]
  refine write_u hd2 hF (hon.put (by omega) (encS_size s)) fun w3 hd3 => ⟨_, rfl, no rfl ?_⟩
  refine flush_u hd3 hF2 (hon.write _ _).flush1 fun w4 hd4 => ⟨_, rfl, rfl, hd4⟩
theorem both_spec {p : Nat} {a : AD} {F : List Nat} {w0 w : World} {X : List A} (h : Dr p a F w0 w X) (hF : a.Few 1000000) {s0 s1 : SupV} {b0 b1 : Bool} (hs0 : SlotAt a 0 s0 b0) (hs1 : SlotAt a 1 s1 b1) :
    Ret Try.prog 38 #[.pointer (some ⟨p, 0, none⟩)] w (.tuple #[.agg (sup2C s0 s1), .agg #[.bool b0, .bool b1]]) := by
  refine ret_of (slots_Both_calls ?_)
  unfold slots_Both
  refine Alloc.t (T.nil w) fun k2 w1 h1 => Alloc.t h1 fun k3 w2 h2 => ?_
  have h2 : T [] w w2 [blk k3 #[.bool false, .bool false] 68, blk k2 (sup2C sup0 sup0) 67] := h2
  refine ⟨fun vs w' => ∃ i : Nat, vs = [.int .i64 (i : Int)] ∧ i ≤ 2 ∧ T [] w w' [blk k3 #[.bool (decide (0 < i) && b0), .bool (decide (1 < i) && b1)] 68, blk k2 (sup2C (if 0 < i then s0 else sup0) (if 1 < i then s1 else sup0)) 67], fun vs _ => match vs with | [.int _ i] => (2 - i).toNat | _ => 0, ⟨0, rfl, by omega, h2⟩, ?_⟩
  rintro vs w3 ⟨i, rfl, hi, h3⟩
  refine ⟨_, rfl, dec_t fun hlt => ?_, dec_f fun hge => ?_⟩
  · have hi2 : i = 0 ∨ i = 1 := by omega
    have hd3 := h.quiet h3.chg.ext
    have hnx : ∀ j : Nat, j < 2 → IntKind.i64.wrap ((j : Int) + 1) = ((j + 1 : Nat) : Int) := fun j hj => by rw [wrap64 _ (by omega) (by omega)]; omega
    have hms : ∀ j : Nat, j < 2 → ((2 : Int) - IntKind.i64.wrap ((j : Int) + 1)).toNat < ((2 : Int) - (j : Int)).toNat := fun j hj => by rw [hnx j hj]; omega
    rcases hi2 with rfl | rfl
    · have h3 : T [] w w3 [blk k3 #[.bool false, .bool false] 68, blk k2 (sup2C sup0 sup0) 67] := h3
      rcases hs0.dec with ⟨hr, rfl, rfl⟩ | ⟨t, n, hr, hdec, hn, hz0⟩
      · refine (read_a hd3 hF 0).mono fun e w4 ⟨he, hx⟩ => ⟨_, _, he, yes (by simpa using hr) ⟨⟨1, by rw [hnx 0 (by omega)], by omega, h3.quiet hx⟩, hms 0 (by omega)⟩⟩
      · refine (read_a hd3 hF 0).mono fun e w4 ⟨he, hx⟩ => ?_
        rw [hr] at he
        refine ⟨_, _, he, no rfl ?_⟩
        have h4 := h3.quiet hx
        refine (hdec w4).mono fun e w5 ⟨he, hx5⟩ => ⟨_, _, _, _, _, _, _, _, _, _, _, he, ?_⟩
        refine Alloc.t (h4.quiet hx5) fun k7 w6 h6 => st10 (a := sup0) (b := s0) h6 fun w7 h7 => ⟨by omega, by omega, ?_⟩
        simp only [addr_add, Int.toNat_natCast, Nat.zero_mul, Nat.one_mul, Nat.zero_add]
        rw [hn]
        refine St.t (c' := #[.bool b0, .bool false]) h7 (.tail .head) (show 0 < 2 by decide) rfl rfl fun w8 h8 => ⟨by omega, by omega, b0, h8.ld (by repeat (first | exact List.Mem.head _ | refine List.Mem.tail _ ?_)) rfl, ?_, ?_⟩
        · intro hb
          subst hb
          refine rd10 h8 (k := k7) (a := s0) (t := 58) (by repeat (first | exact List.Mem.head _ | refine List.Mem.tail _ ?_)) ⟨by omega, by omega, ?_⟩
          refine st10L (a := sup0) (b := sup0) (c := s0) (h8.swap (Pick.perm (a := blk k2 _ 67) (.tail (.tail .head)))) fun w9 h9 => ⟨⟨1, by rw [hnx 0 (by omega)], by omega, T.dropAt (h9.swap (Pick.perm (.tail (.tail .head))).symm) .head⟩, hms 0 (by omega)⟩
        · intro hb
          subst hb
          obtain rfl := hz0 rfl
          exact ⟨⟨1, by rw [hnx 0 (by omega)], by omega, h8.drop⟩, hms 0 (by omega)⟩
    · have h3 : T [] w w3 [blk k3 #[.bool b0, .bool false] 68, blk k2 (sup2C s0 sup0) 67] := h3
      rcases hs1.dec with ⟨hr, rfl, rfl⟩ | ⟨t, n, hr, hdec, hn, hz0⟩
      · refine (read_a hd3 hF 1).mono fun e w4 ⟨he, hx⟩ => ⟨_, _, he, yes (by simpa using hr) ⟨⟨2, by rw [hnx 1 (by omega)], by omega, h3.quiet hx⟩, hms 1 (by omega)⟩⟩
      · refine (read_a hd3 hF 1).mono fun e w4 ⟨he, hx⟩ => ?_
        rw [hr] at he
        refine ⟨_, _, he, no rfl ?_⟩
        have h4 := h3.quiet hx
        refine (hdec w4).mono fun e w5 ⟨he, hx5⟩ => ⟨_, _, _, _, _, _, _, _, _, _, _, he, ?_⟩
        refine Alloc.t (h4.quiet hx5) fun k7 w6 h6 => st10 (a := sup0) (b := s1) h6 fun w7 h7 => ⟨by omega, by omega, ?_⟩
        simp only [addr_add, Int.toNat_natCast, Nat.zero_mul, Nat.one_mul, Nat.zero_add]
        rw [hn]
        refine St.t (c' := #[.bool b0, .bool b1]) h7 (.tail .head) (show 1 < 2 by decide) rfl rfl fun w8 h8 => ⟨by omega, by omega, b1, h8.ld (by repeat (first | exact List.Mem.head _ | refine List.Mem.tail _ ?_)) rfl, ?_, ?_⟩
        · intro hb
          subst hb
          refine rd10 h8 (k := k7) (a := s1) (t := 58) (by repeat (first | exact List.Mem.head _ | refine List.Mem.tail _ ?_)) ⟨by omega, by omega, ?_⟩
          refine st10R (a := s0) (b := sup0) (c := s1) (h8.swap (Pick.perm (a := blk k2 _ 67) (.tail (.tail .head)))) fun w9 h9 => ⟨⟨2, by rw [hnx 1 (by omega)], by omega, T.dropAt (h9.swap (Pick.perm (.tail (.tail .head))).symm) .head⟩, hms 1 (by omega)⟩
        · intro hb
          subst hb
          obtain rfl := hz0 rfl
          exact ⟨⟨2, by rw [hnx 1 (by omega)], by omega, h8.drop⟩, hms 1 (by omega)⟩
  · have hie : i = 2 := by omega
    subst hie
    have h3 : T [] w w3 [blk k3 #[.bool b0, .bool b1] 68, blk k2 (sup2C s0 s1) 67] := h3
    refine ⟨fun w' => T [] w w' [blk k3 #[.bool b0, .bool b1] 68, blk k2 (sup2C s0 s1) 67], h3.drew, rd20D (a := s0) (b := s1) (t := 67) (fun w' hd => ⟨_, _, _, hd, (by repeat (first | exact List.Mem.head _ | refine List.Mem.tail _ ?_))⟩) ⟨b0, b1, fun w' hd => ⟨hd.ld (by repeat (first | exact List.Mem.head _ | refine List.Mem.tail _ ?_)) rfl, hd.ld (by repeat (first | exact List.Mem.head _ | refine List.Mem.tail _ ?_)) rfl⟩, ?_⟩⟩
    have h4 := h3.drew.swap (Pick.perm (.tail .head))
    refine st20 (a := s0) (b := s1) (c := s0) (e := s1) h4 fun w5 h5 => ⟨h5.swap (Pick.perm (.tail .head)), ?_⟩
    refine St.t (c' := #[.bool b0, .bool b1]) h5 (.tail .head) (show 0 < 2 by decide) rfl rfl fun w6 h6 => St.t (c' := #[.bool b0, .bool b1]) h6 (.tail .head) (show 1 < 2 by decide) rfl rfl fun w7 h7 => ?_
    exact rd20 h7 (a := s0) (b := s1) (t := 67) (by repeat (first | exact List.Mem.head _ | refine List.Mem.tail _ ?_)) ⟨_, _, ⟨h7.ld (by repeat (first | exact List.Mem.head _ | refine List.Mem.tail _ ?_)) rfl, h7.ld (by repeat (first | exact List.Mem.head _ | refine List.Mem.tail _ ?_)) rfl⟩, rfl, h7.chg.ext⟩
end Go.Proofs.Ytdppllkjibfjcaa
end
section
/-! slots: Load, Next; the law's some, shown. -/
namespace Go.Proofs.Ytdppllkjibfjcaa
open Go.Sh Go.RowKit
set_option linter.unusedVariables false
set_option linter.unusedSimpArgs false
set_option maxRecDepth 20000
set_option maxHeartbeats 1000000
def newerS (s0 : SupV) (b0 : Bool) (s1 : SupV) (b1 : Bool) : Bool := b1 && (!b0 || decide (s1.events > s0.events))
def loadS (s0 : SupV) (b0 : Bool) (s1 : SupV) (b1 : Bool) : SupV × Int := if newerS s0 b0 s1 b1 = true then (s1, 0) else if b0 = true then (s0, 0) else (sup0, 90)
theorem newer_spec {s0 s1 : SupV} {b0 b1 : Bool} {k4 k5 : Nat} {t4 t5 : TypeId} {F : List Nat} {w0 w : World} {Γ : List A} (hT : T F w0 w Γ) (m5 : blk k5 #[.bool b0, .bool b1] t5 ∈ Γ) (m4 : blk k4 (sup2C s0 s1) t4 ∈ Γ) :
    Ret Try.prog 60 #[.pointer (some ⟨k5, 0, none⟩), .pointer (some ⟨k4, 0, none⟩)] w (.bool (newerS s0 b0 s1 b1)) := by
  refine ret_of (slots_Load_1_calls ?_)
  unfold slots_Load_1
  simp only [addr_add, Nat.zero_add]
  refine ⟨by omega, by omega, b1, hT.ld m5 rfl, ?_, ?_⟩
  · intro h1
    subst h1
    refine ⟨by omega, by omega, b0, hT.ld m5 rfl, ?_, ?_⟩
    · intro h0
      cases b0
      · exact ⟨rfl, Ext.refl w⟩
      · cases h0
    · intro h0
      cases b0
      · cases h0
      · exact ⟨by omega, by omega, s1.events, hT.ld m4 rfl, by omega, by omega, s0.events, hT.ld m4 rfl, rfl, Ext.refl w⟩
  · intro h1
    subst h1
    exact ⟨rfl, Ext.refl w⟩
theorem load_spec {p : Nat} {a : AD} {F : List Nat} {w0 w : World} {X : List A} (h : Dr p a F w0 w X) (hF : a.Few 1000000) (hdead : a.dead = false) {s0 s1 : SupV} {b0 b1 : Bool} (hs0 : SlotAt a 0 s0 b0) (hs1 : SlotAt a 1 s1 b1) :
    Ret Try.prog 33 #[.pointer (some ⟨p, 0, none⟩)] w (.tuple #[.agg (supC (loadS s0 b0 s1 b1).1), .int .i64 (loadS s0 b0 s1 b1).2]) := by
  refine ret_of (slots_Load_calls ?_)
  unfold slots_Load
  refine Alloc.t (T.nil w) fun k2 w1 h1 => ?_
  have h1 : T [] w w1 [blk k2 (supC sup0) 58] := h1
  refine (dead_a (h.quiet h1.chg.ext)).mono fun e w2 ⟨he, hx2⟩ => ⟨_, he, ?_⟩
  have h2 := h1.quiet hx2
  refine no hdead ?_
  refine (both_spec (h.quiet h2.chg.ext) hF hs0 hs1).mono fun e w3 ⟨he, hx3⟩ => ⟨_, _, _, _, _, _, _, _, _, _, _, _, _, _, _, _, _, _, _, _, _, _, he, ?_⟩
  refine Alloc.t (h2.quiet hx3) fun k4 w4 h4 => Alloc.t h4 fun k5 w5 h5 => ?_
  refine st20 (a := sup0) (b := sup0) (c := s0) (e := s1) (h5.swap (Pick.perm (.tail .head))) fun w6 h6 => ?_
  refine St.t (c' := #[.bool b0, .bool false]) h6 (.tail .head) (show 0 < 2 by decide) rfl rfl fun w7 h7 => St.t (c' := #[.bool b0, .bool b1]) h7 (.tail .head) (show 1 < 2 by decide) rfl rfl fun w8 h8 => ?_
  refine (newer_spec (k4 := k4) (k5 := k5) (s0 := s0) (s1 := s1) (b0 := b0) (b1 := b1) (t4 := 67) (t5 := 68) h8 (by repeat (first | exact List.Mem.head _ | refine List.Mem.tail _ ?_)) (by repeat (first | exact List.Mem.head _ | refine List.Mem.tail _ ?_))).mono fun e w9 ⟨he, hx9⟩ => ⟨_, he, ?_⟩
  have h9 := h8.quiet hx9
  have h9' := h9.swap (Pick.perm (a := blk k2 (supC sup0) 58) (.tail (.tail .head)))
  have fin : ∀ (s : SupV) (w' : World) {Γ : List A}, T [] w w' (blk k2 (supC s) 58 :: Γ) → Ext w w' := fun s w' Γ h => h.chg.ext
  unfold loadS
  refine ⟨fun hn => ?_, fun hn => ?_⟩
  · rw [if_pos hn]
    refine ⟨by omega, by omega, rd10R h9 (k := k4) (a := s0) (b := s1) (t := 67) (by repeat (first | exact List.Mem.head _ | refine List.Mem.tail _ ?_)) ?_⟩
    exact st10 (a := sup0) (b := s1) h9' fun w10 h10 => rd10 h10 (k := k2) (a := s1) (t := 58) (by repeat (first | exact List.Mem.head _ | refine List.Mem.tail _ ?_)) ⟨rfl, h10.chg.ext⟩
  · rw [if_neg (by rw [hn]; decide)]
    refine ⟨by omega, by omega, b0, h9.ld (by repeat (first | exact List.Mem.head _ | refine List.Mem.tail _ ?_)) rfl, fun hb => ?_, fun hb => ?_⟩
    · rw [if_pos hb]
      refine ⟨by omega, by omega, rd10L h9 (k := k4) (a := s0) (b := s1) (t := 67) (by repeat (first | exact List.Mem.head _ | refine List.Mem.tail _ ?_)) ?_⟩
      exact st10 (a := sup0) (b := s0) h9' fun w10 h10 => rd10 h10 (k := k2) (a := s0) (t := 58) (by repeat (first | exact List.Mem.head _ | refine List.Mem.tail _ ?_)) ⟨rfl, h10.chg.ext⟩
    · rw [if_neg (by rw [hb]; decide)]
      exact st10 (a := sup0) (b := sup0) h9' fun w10 h10 => rd10 h10 (k := k2) (a := sup0) (t := 58) (by repeat (first | exact List.Mem.head _ | refine List.Mem.tail _ ?_)) ⟨rfl, h10.chg.ext⟩
/-- the law's superblock -/
def someS (uuid events role : Int) : SupV := ⟨if uuid < 1 then 1 else uuid, events, role % 4, 4, 1, 5, false, 5, 0, 0⟩
theorem someS_may {u e r : Int} (hu : 0 ≤ u ∧ u < 18446744073709551616) (he : 0 ≤ e ∧ e < 18446744073709551616) : MayS (someS u e r) := by
  unfold someS
  exact ⟨by simp only; split <;> omega, he, by simp only; omega, by simp, by simp, by simp, by simp, rfl, rfl⟩
theorem some_spec {u e r : Int} (hr : 0 ≤ r ∧ r < 256) (w : World) : Ret Try.prog 34 #[.int .u64 u, .int .u64 e, .int .u8 r] w (.agg (supC (someS u e r))) := by
  refine ret_of (revetmentlaw09_some_calls ?_)
  unfold revetmentlaw09_some
  refine Alloc.t (T.nil w) fun k w1 h1 => ?_
  have h1 : T [] w w1 [blk k (supC sup0) 58] := h1
  refine ⟨_, w1, max_run _ _ _ _ _ _, ?_⟩
  have hm : Int.tmod (IntKind.i64.wrap r) 4 = r % 4 := by
    rw [wrap64 _ (by omega) (by omega), Int.tmod_eq_emod_of_nonneg (by omega)]
  rw [hm]
  refine st10 (a := sup0) (b := someS u e r) h1 fun w10 h10 => rd10 h10 (k := k) (t := 58) (by repeat (first | exact List.Mem.head _ | refine List.Mem.tail _ ?_)) ⟨rfl, h10.chg.ext⟩
end Go.Proofs.Ytdppllkjibfjcaa
end
section
/-! slots: a drive that holds texts, all of them safe; the law's shown. -/
namespace Go.Proofs.Ytdppllkjibfjcaa
open Go.Sh Go.RowKit
set_option linter.unusedVariables false
set_option linter.unusedSimpArgs false
set_option maxRecDepth 20000
set_option maxHeartbeats 1000000
/-- nothing is pending, nothing is spoilt -/
structure AD.Hold (a : AD) (n : Nat) (f : Nat → ByteArray) : Prop where
  on : a.On n
  pend : ∀ j, a.pend j = []
  sp : ∀ j, a.spoilt j = false
  safe : ∀ j, j < n → a.safe.getD j noB = f j
theorem AD.Hold.few {a : AD} {n : Nat} {f : Nat → ByteArray} (h : a.Hold n f) (N : Nat) : a.Few N := fun j => by rw [h.pend]; exact Nat.zero_le _
theorem AD.Hold.read {a : AD} {n : Nat} {f : Nat → ByteArray} (h : a.Hold n f) {i : Nat} (hi : i < n) : a.read (i : Int) = (f i, 0) := by
  rw [read_on h.on (by omega), Int.toNat_natCast, if_neg (by rw [h.sp]; decide), AD.top_none (h.pend i), h.safe i hi]
theorem hold_new (n : Nat) : (AD.new n).Hold n fun _ => zeroSec := ⟨AD.On.new n, fun _ => rfl, fun _ => rfl, fun j hj => by
  show (List.replicate n zeroSec).getD j noB = zeroSec
  simp [List.getD, hj]⟩
theorem AD.Hold.change {a : AD} {n : Nat} {f : Nat → ByteArray} (h : a.Hold n f) {i : Nat} (hi : i < n) {s : ByteArray} (hs : s.size = 64) : (a.change (i : Int) s).Hold n fun j => if j = i then s else f j := by
  have hp := h.on.put (i := (i : Int)) (by omega) hs
  refine ⟨h.on.change _ _, fun j => ?_, fun j => ?_, fun j hj => ?_⟩ <;> rw [AD.change_of hp]
  · show (if j = (i : Int).toNat then [] else a.pend j) = []
    rw [h.pend]; split <;> rfl
  · exact h.sp j
  · show (a.safe.set (i : Int).toNat s).getD j noB = _
    have hl := h.on.len
    rw [Int.toNat_natCast, List.getD_eq_getElem?_getD, List.getElem?_set]
    by_cases e : i = j
    · subst e; rw [if_pos rfl, if_pos (by omega), if_pos rfl]; rfl
    · rw [if_neg e, if_neg (fun e' => e e'.symm), ← h.safe j hj, List.getD_eq_getElem?_getD]
theorem AD.Hold.few_write {a : AD} {n : Nat} {f : Nat → ByteArray} (h : a.Hold n f) (i : Int) (s : ByteArray) : (a.write i s).Few 1000000 := ((h.few 0).write i s).mono (by decide)
theorem AD.Hold.save {a : AD} {n : Nat} {f : Nat → ByteArray} (h : a.Hold n f) {i : Nat} (hi : i < n) {s : ByteArray} (hs : s.size = 64) : ((a.write (i : Int) s).flush).Hold n fun j => if j = i then s else f j := by
  have hp := h.on.put (i := (i : Int)) (by omega) hs
  have how := h.on.write (i : Int) s
  refine ⟨how.flush, fun j => ?_, fun j => ?_, fun j hj => ?_⟩ <;> rw [AD.flush_of how.flush1]
  · rfl
  · show (a.write (i : Int) s).spoilt j = false
    rw [AD.write_of hp]
    show (if j = (i : Int).toNat then false else a.spoilt j) = false
    rw [h.sp]; split <;> rfl
  · show (keptFrom (fun _ m => m) (a.write (i : Int) s).pend 0 0 (a.write (i : Int) s).safe).getD j noB = _
    obtain ⟨k', hk⟩ := keptFrom_get (fun _ m => m) (a.write (i : Int) s).pend noB (a.write (i : Int) s).safe 0 0 j (by rw [how.len]; exact hj)
    rw [hk, Nat.zero_add, AD.write_of hp]
    simp only [Int.toNat_natCast]
    by_cases e : j = i
    · subst e
      simp [h.pend]
    · rw [if_neg e, if_pos (h.pend j), if_neg e]
      exact h.safe j hj
theorem AD.Hold.crash {a : AD} {n : Nat} {f : Nat → ByteArray} (h : a.Hold n f) {i : Nat} (hi : i < n) {s : ByteArray} (hs : s.size = 64) (keep : List UInt8) : ∃ q : Bool, ((a.write (i : Int) s).crash keep).Hold n fun j => if j = i ∧ q = true then s else f j := by
  have hp := h.on.put (i := (i : Int)) (by omega) hs
  have how := h.on.write (i : Int) s
  have hsafe : (a.write (i : Int) s).safe = a.safe := by rw [AD.write_of hp]
  have hpend : ∀ j, (a.write (i : Int) s).pend j = if j = i then [s] else [] := fun j => by
    rw [AD.write_of hp]
    show (if j = (i : Int).toNat then a.pend j ++ [s] else a.pend j) = _
    rw [h.pend, Int.toNat_natCast]; rfl
  have hsp : ∀ j, (a.write (i : Int) s).spoilt j = false := fun j => by
    rw [AD.write_of hp]
    show (if j = (i : Int).toNat then false else a.spoilt j) = false
    rw [h.sp]; split <;> rfl
  obtain ⟨k0, hk0⟩ := keptFrom_get (keepG keep) (a.write (i : Int) s).pend noB (a.write (i : Int) s).safe 0 0 i (by rw [how.len]; exact hi)
  refine ⟨decide (0 < keepG keep k0 1), ⟨how.dead, rfl, ?_⟩, fun j => rfl, hsp, fun j hj => ?_⟩
  · show (keptFrom (keepG keep) (a.write (i : Int) s).pend 0 0 (a.write (i : Int) s).safe).length = n
    rw [keptFrom_len, how.len]
  · show (keptFrom (keepG keep) (a.write (i : Int) s).pend 0 0 (a.write (i : Int) s).safe).getD j noB = _
    by_cases e : j = i
    · subst e
      rw [hk0, Nat.zero_add, hpend, if_pos rfl, if_neg (by simp)]
      have hle := keepG_le keep k0 1
      by_cases hg : 0 < keepG keep k0 1
      · have h1 : keepG keep k0 1 = 1 := by omega
        simp [h1]
      · simp only [List.length_singleton, if_neg hg]
        rw [if_neg (by simp [hg]), hsafe, h.safe j hj]
    · obtain ⟨k', hk⟩ := keptFrom_get (keepG keep) (a.write (i : Int) s).pend noB (a.write (i : Int) s).safe 0 0 j (by rw [how.len]; exact hj)
      rw [hk, Nat.zero_add, hpend, if_neg e, if_pos rfl, hsafe, h.safe j hj, if_neg (fun h => e h.1)]
/-- what a text is, as a slot -/
inductive Cont (t : ByteArray) : SupV → Bool → Prop
  | bad (hs : t.size = 64) (hb : t.data.toList.getD 0 0 ≠ 82) : Cont t sup0 false
  | good (s : SupV) (h : t = strB (encS s)) (hm : MayS s) : Cont t s true
theorem AD.Hold.slot {a : AD} {n : Nat} {f : Nat → ByteArray} (h : a.Hold n f) {i : Nat} (hi : i < n) {s : SupV} {b : Bool} (hc : Cont (f i) s b) : SlotAt a (i : Int) s b := by
  have hr := h.read hi
  cases hc with
  | bad hs hb => exact .bad _ hr hs hb
  | good s he hm => exact .good s (by rw [hr, he]) hm
theorem cont_zero : Cont zeroSec sup0 false := .bad rfl (by decide)
theorem cont_enc {s : SupV} (h : MayS s) : Cont (strB (encS s)) s true := .good s rfl h
theorem load_u {p : Nat} {a : AD} {F : List Nat} {w0 w : World} {X : List A} {Φ : Ending → World → Prop} (h : Dr p a F w0 w X) {n : Nat} {f : Nat → ByteArray} (hh : a.Hold n f) (hn : 2 ≤ n) {s0 s1 : SupV} {b0 b1 : Bool} (hs0 : Cont (f 0) s0 b0) (hs1 : Cont (f 1) s1 b1) {s : SupV} {e : Int} (hl : loadS s0 b0 s1 b1 = (s, e))
    (hk : ∀ w', Dr p a F w0 w' X → Φ (.returned (.tuple #[.agg (supC s), .int .i64 e])) w') : Calls Try.prog 33 #[.pointer (some ⟨p, 0, none⟩)] w Φ := by
  have := load_spec h (hh.few _) hh.on.dead (hh.slot (i := 0) (by omega) hs0) (hh.slot (i := 1) (by omega) hs1)
  rw [hl] at this
  exact this.mono fun e w' ⟨he, hx⟩ => by rw [he]; exact hk w' (h.quiet hx)
theorem saved_u {p : Nat} {a : AD} {F : List Nat} {w0 w : World} {X : List A} {Φ : Ending → World → Prop} (h : Dr p a F w0 w X) {n : Nat} {f : Nat → ByteArray} (hh : a.Hold n f) (hn : 2 ≤ n) {s : SupV} (hm : MayS s)
    (hk : ∀ a' w', Dr p a' F w0 w' X → (a'.Hold n fun j => if j = (s.events % 2).toNat then strB (encS s) else f j) → Φ (.returned (.int .i64 0)) w') : Calls Try.prog 35 #[.pointer (some ⟨p, 0, none⟩), .agg (supC s)] w Φ := by
  have he : s.events % 2 = (((s.events % 2).toNat : Nat) : Int) := by omega
  refine save_u h (hh.few _) hh.on hn hm (hh.few_write _ _) fun w' hd => hk _ w' hd ?_
  rw [he]
  exact hh.save (by omega) (encS_size s)
theorem Dr.alloc {p : Nat} {a : AD} {F : List Nat} {w0 w : World} {X : List A} (h : Dr p a F w0 w X) {c : Array Value} {t : TypeId} {K : Nat → World → Prop} (hK : ∀ b w', Dr p a F w0 w' (blk b c t :: X) → K b w') : Alloc c t w K := by
  obtain ⟨D, h1, h2, hT⟩ := h
  refine Alloc.t hT fun b w' hT' => hK b w' ⟨D, h1, h2, ?_⟩
  first
    | exact hT'
    | exact hT'.swap List.perm_middle.symm
theorem Dr.st10 {p : Nat} {a : AD} {F : List Nat} {w0 w : World} {X : List A} {k : Nat} {t : TypeId} {x y : SupV} (h : Dr p a F w0 w (blk k (supC x) t :: X)) {K : World → Prop} (hK : ∀ w', Dr p a F w0 w' (blk k (supC y) t :: X) → K w') :
    St ⟨k, 0, none⟩ (.int .u64 y.uuid) w fun w1 => St ⟨k, 1, none⟩ (.int .u64 y.events) w1 fun w2 => St ⟨k, 2, none⟩ (.int .i64 y.role) w2 fun w3 => St ⟨k, 3, none⟩ (.int .i64 y.cols) w3 fun w4 => St ⟨k, 4, none⟩ (.int .i64 y.chunk) w4 fun w5 => St ⟨k, 5, none⟩ (.int .i64 y.rows) w5 fun w6 =>
      St ⟨k, 6, none⟩ (.bool y.clean) w6 fun w7 => St ⟨k, 7, none⟩ (.int .i64 y.built) w7 fun w8 => St ⟨k, 8, none⟩ (.int .i64 y.new) w8 fun w9 => St ⟨k, 9, none⟩ (.int .i64 y.grown) w9 K := by
  obtain ⟨D, h1, h2, hT⟩ := h
  first
    | exact Go.Proofs.Ytdppllkjibfjcaa.st10 (a := x) (b := y) hT fun w' hT' => hK w' ⟨D, h1, h2, hT'⟩
    | exact Go.Proofs.Ytdppllkjibfjcaa.st10 (a := x) (b := y) (hT.swap List.perm_middle) fun w' hT' => hK w' ⟨D, h1, h2, hT'.swap List.perm_middle.symm⟩
theorem drew_dr {p : Nat} {a : AD} {F : List Nat} {w0 w : World} {X : List A} (h : Dr p a F w0 w X) : Dr p a F w0 w.drew X := by
  obtain ⟨D, h1, h2, hT⟩ := h
  exact ⟨D, h1, h2, hT.drew⟩
theorem sshown_spec (w : World) : Ret Try.prog 32 #[] w (.bool true) := by
  refine ret_of (revetmentlaw09_shown_calls ?_)
  unfold revetmentlaw09_shown
  refine new_u (n := 4) (T.nil w) (by omega) fun p w1 h1 => ⟨_, rfl, no rfl ?_⟩
  have hm : MayS (someS 9 3 1) := someS_may (by omega) (by omega)
  refine (some_spec (u := 9) (e := 3) (r := 1) (by omega) w1).mono fun e w2 ⟨he, hx2⟩ => ⟨_, _, _, _, _, _, _, _, _, _, he, ?_⟩
  refine saved_u (s := someS 9 3 1) (h1.quiet hx2) (hold_new 4) (by omega) hm fun a' w3 h3 hh => ⟨_, rfl, no rfl ?_⟩
  refine load_u (s := someS 9 3 1) (e := 0) h3 hh (by omega) (s0 := sup0) (b0 := false) (s1 := someS 9 3 1) (b1 := true) cont_zero (cont_enc hm) rfl fun w4 h4 => ⟨_, _, _, _, _, _, _, _, _, _, _, rfl, ?_⟩
  refine Alloc.t h4.under fun k2 w5 h5 => Go.Proofs.Ytdppllkjibfjcaa.st10 (a := sup0) (b := someS 9 3 1) h5 fun w6 h6 => ?_
  refine ⟨fun w' => T [] w w' [blk k2 (supC (someS 9 3 1)) 58], h6.drew, rd10D (a := someS 9 3 1) (t := 58) (fun w' hd => ⟨_, _, _, hd, (by repeat (first | exact List.Mem.head _ | refine List.Mem.tail _ ?_))⟩) ?_⟩
  refine (some_spec (u := 9) (e := 3) (r := 1) (by omega) _).mono fun e w7 ⟨he, hx7⟩ => ⟨_, _, _, _, _, _, _, _, _, _, he, h6.drew.quiet hx7, true, fun x0 _ => ?_, yes rfl ⟨rfl, (h6.drew.quiet hx7).chg.ext⟩⟩
  have := eql_sup (someS 9 3 1) (someS 9 3 1) (.tmp 18) (.tmp 19) x0
  rw [decide_eq_true rfl] at this
  exact this
end Go.Proofs.Ytdppllkjibfjcaa
end
section
/-! slots: SlotsNone. -/
namespace Go.Proofs.Ytdppllkjibfjcaa
open Go.Sh Go.RowKit
set_option linter.unusedVariables false
set_option linter.unusedSimpArgs false
set_option maxRecDepth 20000
set_option maxHeartbeats 1000000
theorem sshown_end {w w1 : World} (hx : Ext w w1) : Calls Try.prog 32 #[] w1 fun e w2 => ∃ b : Bool, e = .returned (.bool b) ∧ RetR w (.bool true) (.bool b) w2 :=
  (sshown_spec w1).mono fun e w2 ⟨he, hx2⟩ => ⟨true, he, rfl, hx.trans hx2⟩
def junkB (s : ByteArray) : ByteArray := (((ByteArray.mk #[122, 122]) ++ s) ++ zeroSec).extract 0 64
theorem junkB_eq (s : ByteArray) : junkB s = strB (([122, 122] ++ s.data.toList ++ List.replicate 64 0).take 64) := by
  have h1 : (ByteArray.mk #[122, 122]) = strB [122, 122] := rfl
  have h2 : zeroSec = strB (List.replicate 64 0) := rfl
  unfold junkB
  rw [h1, h2]
  conv => lhs; rw [← strB_list s]
  rw [strB_append, strB_append, strB_extract]
  rfl
theorem junkB_size (s : ByteArray) : (junkB s).size = 64 := by
  rw [junkB_eq, strB_size]; simp
theorem junkB_cont (s : ByteArray) : Cont (junkB s) sup0 false := by
  refine .bad (junkB_size s) ?_
  rw [junkB_eq]
  show ((([122, 122] ++ s.data.toList ++ List.replicate 64 0).take 64).getD 0 0 : UInt8) ≠ 82
  show (122 : UInt8) ≠ 82
  decide
theorem saved_load {s : SupV} (hm : MayS s) {f : Nat → ByteArray} (h0 : Cont (f 0) sup0 false) (h1 : Cont (f 1) sup0 false) :
    ∃ s0 b0 s1 b1, Cont (if 0 = (s.events % 2).toNat then strB (encS s) else f 0) s0 b0 ∧ Cont (if 1 = (s.events % 2).toNat then strB (encS s) else f 1) s1 b1 ∧ loadS s0 b0 s1 b1 = (s, 0) := by
  have he : (s.events % 2).toNat = 0 ∨ (s.events % 2).toNat = 1 := by omega
  rcases he with he | he
  · rw [he]
    exact ⟨s, true, sup0, false, by rw [if_pos rfl]; exact cont_enc hm, by rw [if_neg (by decide)]; exact h1, rfl⟩
  · rw [he]
    exact ⟨sup0, false, s, true, by rw [if_neg (by decide)]; exact h0, by rw [if_pos rfl]; exact cont_enc hm, rfl⟩
def pickJ (j0 j1 : ByteArray) (j : Nat) : ByteArray := if j = 0 then j0 else j1
theorem none_spec {u e r : Int} (hu : 0 ≤ u ∧ u < 18446744073709551616) (hev : 0 ≤ e ∧ e < 18446744073709551616) (hr : 0 ≤ r ∧ r < 256) (j0 j1 : ByteArray) (w : World) :
    Ret Try.prog 8 #[.int .u64 u, .int .u64 e, .int .u8 r, .agg #[.string j0, .string j1]] w (.bool true) := by
  refine ret_of (revetmentlaw09_SlotsNone_calls ?_)
  unfold revetmentlaw09_SlotsNone
  refine Alloc.t (T.nil w) fun k7 w1 h1 => ?_
  refine ⟨by omega, by omega, j0, h1.ld List.mem_cons_self rfl, dec_t fun _ => sshown_end h1.chg.ext, dec_f fun hj0 => ⟨by omega, by omega, j1, h1.ld List.mem_cons_self rfl, dec_t fun _ => sshown_end h1.chg.ext, dec_f fun hj1 => ?_⟩⟩
  refine (sshown_spec w1).mono fun e_ w4 ⟨he, hx4⟩ => ⟨_, he, no rfl ?_⟩
  refine new_u (n := 3) (h1.quiet hx4) (by omega) fun p w6 h6 => ⟨_, rfl, no rfl ?_⟩
  refine ⟨fun vs w' => ∃ (i : Nat) (a : AD), vs = [.int .i64 (i : Int)] ∧ i ≤ 2 ∧ Dr p a [] w w' [blk k7 #[.string j0, .string j1] 54] ∧ a.Hold 3 (fun j => if j < i then junkB (pickJ j0 j1 j) else zeroSec), fun vs _ => match vs with | [.int _ i] => (2 - i).toNat | _ => 0, ⟨0, AD.new 3, rfl, by omega, h6, by simpa using hold_new 3⟩, ?_⟩
  rintro vs w7 ⟨i, a, rfl, hi, h7, hh⟩
  refine ⟨_, rfl, dec_t fun hlt => ?_, dec_f fun hge => ?_⟩
  · have hlt : i < 2 := by omega
    have hsz : (pickJ j0 j1 i).size ≤ 60 := by unfold pickJ; split <;> omega
    refine ⟨fun w' => Dr p a [] w w' [blk k7 #[.string j0, .string j1] 54], drew_dr h7, by omega, by omega, pickJ j0 j1 i, fun w' hd => ?_, ?_, ?_⟩
    · rw [Int.toNat_natCast, addr_add, Nat.zero_add, Nat.mul_one]
      have hi2 : i = 0 ∨ i = 1 := by omega
      rcases hi2 with rfl | rfl
      · exact hd.under.ld List.mem_cons_self rfl
      · exact hd.under.ld List.mem_cons_self rfl
    · have : (ByteArray.mk #[122, 122]).size = 2 := rfl
      omega
    · refine (blank_spec _).mono fun e_ w8 ⟨he, hx8⟩ => ⟨_, he, (drew_dr h7).quiet hx8, ?_, ?_⟩
      · rw [ByteArray.size_append, zeroSec_size]
        have : (ByteArray.mk #[122, 122]).size = 2 := rfl
        omega
      · refine ⟨_, fun x0 _ => slice_to (by kernel_rfl) (by omega) (by
          rw [ByteArray.size_append, ByteArray.size_append, zeroSec_size]
          have : (ByteArray.mk #[122, 122]).size = 2 := rfl
          omega), ?_⟩
        have hput : a.put (i : Int) (junkB (pickJ j0 j1 i)) = 0 := hh.on.put (by omega) (junkB_size _)
        refine change_u ((drew_dr h7).quiet hx8) hput fun w9 h9 => ⟨_, rfl, no rfl ⟨⟨i + 1, _, ?_, by omega, h9, ?_⟩, ?_⟩⟩
        · rw [wrap64 _ (by omega) (by omega)]; rfl
        · have h10 := hh.change (i := i) (by omega) (junkB_size (pickJ j0 j1 i))
          have : (fun j => if j = i then junkB (pickJ j0 j1 i) else if j < i then junkB (pickJ j0 j1 j) else zeroSec) = fun j => if j < i + 1 then junkB (pickJ j0 j1 j) else zeroSec := by
            funext j
            by_cases e1 : j = i
            · subst e1; rw [if_pos rfl, if_pos (by omega)]
            · rw [if_neg e1]
              by_cases e2 : j < i
              · rw [if_pos e2, if_pos (by omega)]
              · rw [if_neg e2, if_neg (by omega)]
          rw [this] at h10
          exact h10
        · show ((2 : Int) - IntKind.i64.wrap ((i : Int) + 1)).toNat < ((2 : Int) - (i : Int)).toNat
          rw [wrap64 _ (by omega) (by omega)]; omega
  · have hie : i = 2 := by omega
    subst hie
    have hm : MayS (someS u e r) := someS_may hu hev
    refine load_u (s := sup0) (e := 90) h7 hh (by omega) (s0 := sup0) (b0 := false) (s1 := sup0) (b1 := false) (junkB_cont j0) (junkB_cont j1) rfl fun w10 h10 => ⟨_, _, _, _, _, _, _, _, _, _, _, rfl, ?_⟩
    refine Dr.alloc h10 fun k12 w11 h11 => Dr.st10 (x := sup0) (y := sup0) h11 fun w12 h12 => ?_
    refine (some_spec (u := u) (e := e) (r := r) hr w12).mono fun e_ w13 ⟨he, hx13⟩ => ⟨_, _, _, _, _, _, _, _, _, _, he, ?_⟩
    refine Dr.alloc (h12.quiet hx13) fun k14 w14 h14 => Dr.st10 (x := sup0) (y := someS u e r) h14 fun w15 h15 => ?_
    refine rd10 h15.under (a := someS u e r) (k := k14) (t := 58) (by repeat (first | exact List.Mem.head _ | refine List.Mem.tail _ ?_)) ?_
    refine saved_u (s := someS u e r) h15 hh (by omega) hm fun a' w16 h16 hh' => ⟨_, rfl, ?_⟩
    obtain ⟨s0, b0, s1, b1, hc0, hc1, hl⟩ := saved_load hm (f := fun j => if j < 2 then junkB (pickJ j0 j1 j) else zeroSec) (junkB_cont j0) (junkB_cont j1)
    refine load_u (s := someS u e r) (e := 0) h16 hh' (by omega) hc0 hc1 hl fun w17 h17 => ⟨_, _, _, _, _, _, _, _, _, _, _, rfl, ?_⟩
    refine Dr.alloc h17 fun k16 w18 h18 => Dr.st10 (x := sup0) (y := someS u e r) h18 fun w19 h19 => ?_
    refine yes rfl (yes rfl (yes rfl ?_))
    refine rd10 h19.under (a := someS u e r) (k := k16) (t := 58) (by repeat (first | exact List.Mem.head _ | refine List.Mem.tail _ ?_)) (rd10 h19.under (a := someS u e r) (k := k14) (t := 58) (by repeat (first | exact List.Mem.head _ | refine List.Mem.tail _ ?_)) ⟨true, w19, ?_, rfl, h19.ext⟩)
    have := eql_sup (someS u e r) (someS u e r) (.tmp 80) (.tmp 81) w19
    rw [decide_eq_true rfl] at this
    exact this
end Go.Proofs.Ytdppllkjibfjcaa
end
section
/-! slots: SlotsCrash. -/
namespace Go.Proofs.Ytdppllkjibfjcaa
open Go.Sh Go.RowKit
set_option linter.unusedVariables false
set_option linter.unusedSimpArgs false
set_option maxRecDepth 20000
set_option maxHeartbeats 1000000
theorem mod60 {e : Int} (h : 0 ≤ e ∧ e < 18446744073709551616) : 0 ≤ Int.tmod e 1152921504606846976 ∧ Int.tmod e 1152921504606846976 < 1152921504606846976 := by
  rw [Int.tmod_eq_emod_of_nonneg (by omega)]; omega
theorem crash_load {u at_ r0 r1 : Int} (hu : 0 ≤ u ∧ u < 18446744073709551616) (ha : 0 ≤ at_ ∧ at_ < 1152921504606846976) (q : Bool) {f : Nat → ByteArray}
    (hf : f = fun j => if j = ((at_ + 1) % 2).toNat ∧ q = true then strB (encS (someS u (at_ + 1) r1)) else if j = ((someS u at_ r0).events % 2).toNat then strB (encS (someS u at_ r0)) else zeroSec) :
    ∃ s0 b0 s1 b1 s, Cont (f 0) s0 b0 ∧ Cont (f 1) s1 b1 ∧ loadS s0 b0 s1 b1 = (s, 0) ∧ (s = someS u at_ r0 ∨ s = someS u (at_ + 1) r1) := by
  have mA : MayS (someS u at_ r0) := someS_may hu (by omega)
  have mB : MayS (someS u (at_ + 1) r1) := someS_may hu (by omega)
  have eA : (someS u at_ r0).events = at_ := rfl
  have eB : (someS u (at_ + 1) r1).events = at_ + 1 := rfl
  subst hf
  rw [eA]
  have hp : at_ % 2 = 0 ∨ at_ % 2 = 1 := by omega
  rcases hp with hp | hp
  · have h1 : ((at_ + 1) % 2).toNat = 1 := by omega
    have h0 : (at_ % 2).toNat = 0 := by omega
    rw [h1, h0]
    cases q
    · exact ⟨_, true, sup0, false, someS u at_ r0, by simpa using cont_enc mA, by simpa using cont_zero, rfl, .inl rfl⟩
    · refine ⟨someS u at_ r0, true, someS u (at_ + 1) r1, true, someS u (at_ + 1) r1, by simpa using cont_enc mA, by simpa using cont_enc mB, ?_, .inr rfl⟩
      have : newerS (someS u at_ r0) true (someS u (at_ + 1) r1) true = true := by
        unfold newerS
        rw [eA, eB, decide_eq_true (by omega)]; rfl
      unfold loadS
      rw [if_pos this]
  · have h1 : ((at_ + 1) % 2).toNat = 0 := by omega
    have h0 : (at_ % 2).toNat = 1 := by omega
    rw [h1, h0]
    cases q
    · exact ⟨sup0, false, _, true, someS u at_ r0, by simpa using cont_zero, by simpa using cont_enc mA, rfl, .inl rfl⟩
    · refine ⟨someS u (at_ + 1) r1, true, someS u at_ r0, true, someS u (at_ + 1) r1, by simpa using cont_enc mB, by simpa using cont_enc mA, ?_, .inr rfl⟩
      have : newerS (someS u (at_ + 1) r1) true (someS u at_ r0) true = false := by
        unfold newerS
        rw [eA, eB, decide_eq_false (by omega)]; rfl
      unfold loadS
      rw [this]; rfl
theorem crash_law {u e r0 r1 : Int} (hu : 0 ≤ u ∧ u < 18446744073709551616) (hev : 0 ≤ e ∧ e < 18446744073709551616) (hr0 : 0 ≤ r0 ∧ r0 < 256) (hr1 : 0 ≤ r1 ∧ r1 < 256) (l : List UInt8) (p : Option Addr) (c : Nat) (w : World) (hl : bytesAt w p l) :
    Ret Try.prog 9 #[.int .u64 u, .int .u64 e, .int .u8 r0, .int .u8 r1, .slice p l.length c] w (.bool true) := by
  refine ret_of (revetmentlaw09_SlotsCrash_calls ?_)
  unfold revetmentlaw09_SlotsCrash
  refine ⟨dec_t fun _ => sshown_end (.refl w), dec_f fun hlen => ?_⟩
  refine (sshown_spec w).mono fun e_ w2 ⟨he, hx2⟩ => ⟨_, he, no rfl ?_⟩
  refine new_u (n := 2) ((T.nil w).quiet hx2) (by omega) fun d w4 h4 => ⟨_, rfl, no rfl ?_⟩
  have hat := mod60 hev
  generalize Int.tmod e 1152921504606846976 = at_ at hat
  have hw1 : IntKind.u64.wrap (at_ + 1) = at_ + 1 := by rw [wrapU64]; omega
  have hw2 : IntKind.i64.wrap (Int.tmod (at_ + 1) 2) = (at_ + 1) % 2 := by
    rw [Int.tmod_eq_emod_of_nonneg (by omega), wrap64 _ (by omega) (by omega)]
  rw [hw1, hw2]
  have mA : MayS (someS u at_ r0) := someS_may hu (by omega)
  have mB : MayS (someS u (at_ + 1) r1) := someS_may hu (by omega)
  refine (some_spec (u := u) (e := at_) (r := r0) hr0 w4).mono fun e_ w5 ⟨he, hx5⟩ => ⟨_, _, _, _, _, _, _, _, _, _, he, ?_⟩
  refine saved_u (s := someS u at_ r0) (h4.quiet hx5) (hold_new 2) (by omega) mA fun a w6 h6 hh => ⟨_, rfl, no rfl ?_⟩
  refine (some_spec (u := u) (e := at_ + 1) (r := r1) hr1 w6).mono fun e_ w7 ⟨he, hx7⟩ => ⟨_, _, _, _, _, _, _, _, _, _, he, ?_⟩
  refine (sencode_spec mB w7).mono fun e_ w8 ⟨he, hx8⟩ => ⟨_, _, he, no rfl ?_⟩
  have hi : (at_ + 1) % 2 = ((((at_ + 1) % 2).toNat : Nat) : Int) := by omega
  refine write_u ((h6.quiet hx7).quiet hx8) (hh.few _) (hh.on.put (by omega) (encS_size _)) fun w9 h9 => ⟨_, rfl, no rfl ?_⟩
  refine (crash_a h9 (hh.few_write _ _) l p c (by omega) fun w1 hT => hl.ext hT.chg.ext).mono fun e_ w10 ⟨he, h10⟩ => ⟨he, ?_⟩
  rw [hi] at h10
  obtain ⟨q, hq⟩ := hh.crash (i := ((at_ + 1) % 2).toNat) (by omega) (encS_size (someS u (at_ + 1) r1)) l
  obtain ⟨s0, b0, s1, b1, s, hc0, hc1, hload, hs⟩ := crash_load (r0 := r0) (r1 := r1) hu hat q rfl
  refine load_u (s := s) (e := 0) h10 hq (by omega) hc0 hc1 hload fun w11 h11 => ⟨_, _, _, _, _, _, _, _, _, _, _, rfl, ?_⟩
  refine Alloc.t h11.under fun k w12 h12 => Go.Proofs.Ytdppllkjibfjcaa.st10 (a := sup0) (b := s) h12 fun w13 h13 => ?_
  refine ⟨fun w' => T [] w w' [blk k (supC s) 58], h13.drew, yes rfl (rd10D (a := s) (t := 58) (fun w' hd => ⟨_, _, _, hd, (by repeat (first | exact List.Mem.head _ | refine List.Mem.tail _ ?_))⟩) ?_)⟩
  refine (some_spec (u := u) (e := at_) (r := r0) hr0 _).mono fun e_ w14 ⟨he, hx14⟩ => ⟨_, _, _, _, _, _, _, _, _, _, he, ?_⟩
  have h14 := h13.drew.quiet hx14
  refine ⟨h14, decide (s = someS u at_ r0), fun w' _ => eql_sup s (someS u at_ r0) _ _ w', fun _ => ⟨rfl, h14.chg.ext⟩, fun hne => rd10D (a := s) (t := 58) (fun w' hd => ⟨_, _, _, hd, (by repeat (first | exact List.Mem.head _ | refine List.Mem.tail _ ?_))⟩) ?_⟩
  refine (some_spec (u := u) (e := at_ + 1) (r := r1) hr1 _).mono fun e_ w15 ⟨he, hx15⟩ => ⟨_, _, _, _, _, _, _, _, _, _, he, ?_⟩
  have h15 := h14.quiet hx15
  have hsB : s = someS u (at_ + 1) r1 := hs.resolve_left (of_decide_eq_false hne)
  refine ⟨h15, decide (s = someS u (at_ + 1) r1), fun w' _ => eql_sup s (someS u (at_ + 1) r1) _ _ w', ?_, h15.chg.ext⟩
  rw [decide_eq_true hsB]
end Go.Proofs.Ytdppllkjibfjcaa
end
section
/-! slots: Next. -/
namespace Go.Proofs.Ytdppllkjibfjcaa
open Go.Sh Go.RowKit
set_option linter.unusedVariables false
set_option linter.unusedSimpArgs false
set_option maxRecDepth 20000
set_option maxHeartbeats 1000000
section
variable {p : Nat} {a : AD} {F : List Nat} {w0 w : World} {X : List A}
theorem Dr.perm {X' : List A} (h : Dr p a F w0 w X) (hp : X.Perm X') : Dr p a F w0 w X' := by
  obtain ⟨D, h1, h2, hT⟩ := h
  exact ⟨D, h1, h2, hT.swap (hp.append_right _)⟩
theorem Dr.dropX {y : A} (h : Dr p a F w0 w (y :: X)) : Dr p a F w0 w X := by
  obtain ⟨D, h1, h2, hT⟩ := h
  exact ⟨D, h1, h2, T.drop hT⟩
theorem Dr.only {y : A} : ∀ {X : List A}, Dr p a F w0 w (y :: X) → Dr p a F w0 w [y]
  | [], h => h
  | _ :: X, h => Dr.only (X := X) (h.perm (.swap _ _ _)).dropX
theorem Dr.st1 {k i : Nat} {c c' : Array Value} {t : TypeId} {v : Value} {K : World → Prop} (h : Dr p a F w0 w (blk k c t :: X)) (hi : i < c.size) (hc : c.setIfInBounds i v = c') (hv : scalar v = true) (hK : ∀ w', Dr p a F w0 w' (blk k c' t :: X) → K w') : St ⟨k, i, none⟩ v w K := by
  obtain ⟨D, h1, h2, hT⟩ := h
  exact St.t (Γ := blk k c t :: (X ++ drvL D)) hT .head hi hc hv fun w' hT' => hK w' ⟨D, h1, h2, hT'⟩
theorem Dr.into {y : A} {K : Prop} (h : Dr p a F w0 w (y :: X)) (hK : ∀ Γ, T F w0 w (y :: Γ) → (∀ w' y', T F w0 w' (y' :: Γ) → Dr p a F w0 w' (y' :: X)) → K) : K := by
  obtain ⟨D, h1, h2, hT⟩ := h
  exact hK (X ++ drvL D) hT fun w' y' hT' => ⟨D, h1, h2, hT'⟩
theorem next_u {Φ : Ending → World → Prop} {n : Nat} {f : Nat → ByteArray} (h : Dr p a F w0 w X) (hh : a.Hold n f) (hn : 2 ≤ n) {s0 s1 : SupV} {b0 b1 : Bool} (hs0 : Cont (f 0) s0 b0) (hs1 : Cont (f 1) s1 b1) {old : SupV} {e0 : Int} (hl : loadS s0 b0 s1 b1 = (old, e0))
    {s s' : SupV} (hs : s' = { s with events := (if e0 = 0 then old.events else s.events) + 1 }) (hm : MayS s')
    (hk : ∀ a' w', Dr p a' F w0 w' X → (a'.Hold n fun j => if j = (s'.events % 2).toNat then strB (encS s') else f j) → Φ (.returned (.tuple #[.agg (supC s'), .int .i64 0])) w') : Calls Try.prog 37 #[.pointer (some ⟨p, 0, none⟩), .agg (supC s)] w Φ := by
  refine (slots_Next_calls (R := fun v w' => ∃ a', v = .tuple #[.agg (supC s'), .int .i64 0] ∧ Dr p a' F w0 w' X ∧ a'.Hold n fun j => if j = (s'.events % 2).toNat then strB (encS s') else f j) ?_).mono fun e w' ⟨v, he, a', hv, hd, hH⟩ => by rw [he, hv]; exact hk a' w' hd hH
  unfold slots_Next
  refine Dr.alloc h fun k3 w1 h1 => Dr.alloc h1 fun k4 w2 h2 => Join.intro fun J hJ => ?_
  have h2 : Dr p a F w0 w2 (blk k4 (supC sup0) 58 :: blk k3 (supC s) 58 :: X) := h2
  have main : ∀ w3, Dr p a F w0 w3 (blk k3 (supC { s with events := s'.events - 1 }) 58 :: blk k4 (supC sup0) 58 :: X) → J [] w3 := by
    intro w3 h3
    refine hJ _ _ ⟨rfl, s'.events - 1, h3.under.ld List.mem_cons_self rfl, ?_⟩
    have hw : IntKind.u64.wrap (s'.events - 1 + 1) = s'.events := by rw [wrapU64]; have := hm.events; omega
    rw [hw]
    refine Dr.st1 (c' := supC s') h3 (show 1 < 10 by decide) (by subst hs; rfl) rfl fun w4 h4 => rd10 h4.under (a := s') (k := k3) (t := 58) (by repeat (first | exact List.Mem.head _ | refine List.Mem.tail _ ?_)) ?_
    refine saved_u (s := s') h4 hh hn hm fun a' w5 h5 hH => ⟨_, rfl, no rfl ?_⟩
    refine rd10 h5.under (a := s') (k := k3) (t := 58) (by repeat (first | exact List.Mem.head _ | refine List.Mem.tail _ ?_)) ?_
    exact Dr.st10 (x := sup0) (y := s') (h5.perm (.swap _ _ _)) fun w6 h6 => rd10 h6.under (a := s') (k := k4) (t := 58) (by repeat (first | exact List.Mem.head _ | refine List.Mem.tail _ ?_)) ⟨a', rfl, h6.dropX.dropX, hH⟩
  refine load_u (s := old) (e := e0) h2 hh hn hs0 hs1 hl fun w5 h5 => ⟨_, _, _, _, _, _, _, _, _, _, _, rfl, ?_⟩
  refine Dr.alloc h5 fun k6 w6 h6 => Dr.st10 (x := sup0) (y := old) h6 fun w7 h7 => ⟨fun hz => ?_, fun hz => ?_⟩
  · have hz : e0 = 0 := by simpa using hz
    refine ⟨old.events, h7.under.ld List.mem_cons_self rfl, ?_⟩
    refine Dr.st1 (c' := supC { s with events := old.events }) (h7.dropX.perm (.swap _ _ _)) (show 1 < 10 by decide) rfl rfl fun w8 h8 => main w8 ?_
    have : s'.events - 1 = old.events := by rw [hs]; simp [hz]
    rw [this]; exact h8
  · have hz : e0 ≠ 0 := by simpa using hz
    refine main w7 ?_
    have : s'.events - 1 = s.events := by rw [hs]; simp [hz]
    rw [this]; exact h7.dropX.perm (.swap _ _ _)
end
/-- the newest one lies in slot x -/
theorem load_par {f : Nat → ByteArray} {x : Nat} (hx : x = 0 ∨ x = 1) {c d : SupV} {db : Bool} (hc : Cont (f x) c true) (hd : Cont (f (1 - x)) d db) (hlt : db = true → d.events < c.events) :
    ∃ s0 b0 s1 b1, Cont (f 0) s0 b0 ∧ Cont (f 1) s1 b1 ∧ loadS s0 b0 s1 b1 = (c, 0) ∧ ((x = 0 ∧ s0 = c ∧ b0 = true ∧ s1 = d ∧ b1 = db) ∨ (x = 1 ∧ s1 = c ∧ b1 = true ∧ s0 = d ∧ b0 = db)) := by
  rcases hx with rfl | rfl
  · refine ⟨c, true, d, db, hc, hd, ?_, .inl ⟨rfl, rfl, rfl, rfl, rfl⟩⟩
    have : newerS c true d db = false := by
      unfold newerS
      cases db
      · rfl
      · have := hlt rfl
        rw [decide_eq_false (by omega)]; rfl
    unfold loadS
    rw [this]; rfl
  · refine ⟨d, db, c, true, hd, hc, ?_, .inr ⟨rfl, rfl, rfl, rfl, rfl⟩⟩
    have : newerS d db c true = true := by
      unfold newerS
      cases db
      · rfl
      · have := hlt rfl
        rw [decide_eq_true (by omega)]; rfl
    unfold loadS
    rw [if_pos this]
theorem AD.Hold.spoil {a : AD} {n : Nat} {f : Nat → ByteArray} (h : a.Hold n f) {x : Nat} (hx : x < n) : SlotAt (a.spoil (x : Int)) (x : Int) sup0 false ∧ ∀ (y : Nat), y < n → y ≠ x → ∀ {s : SupV} {b : Bool}, Cont (f y) s b → SlotAt (a.spoil (x : Int)) (y : Int) s b := by
  have hm := h.on.may (i := (x : Int)) (by omega)
  have hon := h.on.spoil (x : Int)
  have hr : ∀ y : Nat, y < n → (a.spoil (x : Int)).read (y : Int) = if y = x then (noB, 41) else (f y, 0) := fun y hy => by
    rw [read_on hon (by omega), AD.spoil_of hm]
    show (if (if (y : Int).toNat = (x : Int).toNat then true else a.spoilt (y : Int).toNat) = true then (noB, 41) else (AD.top { a with spoilt := _ } (y : Int).toNat, 0)) = _
    rw [Int.toNat_natCast, Int.toNat_natCast]
    by_cases e : y = x
    · rw [if_pos e, if_pos rfl, if_pos e]
    · rw [if_neg e, if_neg (by rw [h.sp]; decide), if_neg e]
      show (a.top y, (0 : Int)) = _
      rw [AD.top_none (h.pend y), h.safe y hy]
  refine ⟨.none (by rw [hr x hx, if_pos rfl]; decide), fun y hy hne s b hc => ?_⟩
  have h1 := hr y hy
  rw [if_neg hne] at h1
  cases hc with
  | bad hs hb => exact .bad _ h1 hs hb
  | good s he hm => exact .good s (by rw [h1, he]) hm
end Go.Proofs.Ytdppllkjibfjcaa
end
section
/-! slots: Load, Save, Next of any drive and any superblock. -/
namespace Go.Proofs.Ytdppllkjibfjcaa
open Go.Sh Go.RowKit
set_option linter.unusedVariables false
set_option linter.unusedSimpArgs false
set_option maxRecDepth 20000
set_option maxHeartbeats 1000000
def loadF (a : AD) : SupV × Int := if a.dead = true then (sup0, 40) else loadS (slotF a 0).1 (slotF a 0).2 (slotF a 1).1 (slotF a 1).2
def saveF (a : AD) (s : SupV) : AD × Int := if MayF s then (if a.put (s.events % 2) (strB (encS s)) = 0 then ((a.write (s.events % 2) (strB (encS s))).flush, (a.write (s.events % 2) (strB (encS s))).flush1) else (a, a.put (s.events % 2) (strB (encS s)))) else (a, 1)
def nextS (a : AD) (s : SupV) : SupV := { s with events := IntKind.u64.wrap ((if (loadF a).2 = 0 then (loadF a).1.events else s.events) + 1) }
def nextF (a : AD) (s : SupV) : SupV × Int := if (saveF a (nextS a s)).2 = 0 then (nextS a s, 0) else (sup0, (saveF a (nextS a s)).2)
theorem nextS_u64 (a : AD) {s : SupV} (h : U64S s) : U64S (nextS a s) := ⟨h.1, by
  show 0 ≤ IntKind.u64.wrap _ ∧ IntKind.u64.wrap _ < 18446744073709551616
  rw [wrapU64]; omega⟩
theorem saveF_few {a : AD} {N : Nat} (h : a.Few N) (s : SupV) : (saveF a s).1.Few (N + 1) := by
  unfold saveF
  split
  · split
    · exact (h.write _ _).flush
    · exact h.mono (by omega)
  · exact h.mono (by omega)
section
variable {p : Nat} {a : AD} {F : List Nat} {w0 w : World} {X : List A}
theorem loadF_spec (h : Dr p a F w0 w X) (hF : a.Few 1000000) : Ret Try.prog 33 #[.pointer (some ⟨p, 0, none⟩)] w (.tuple #[.agg (supC (loadF a).1), .int .i64 (loadF a).2]) := by
  unfold loadF
  by_cases hd : a.dead = true
  · rw [if_pos hd]
    refine ret_of (slots_Load_calls ?_)
    unfold slots_Load
    refine Alloc.t (T.nil w) fun k2 w1 h1 => ?_
    have h1 : T [] w w1 [blk k2 (supC sup0) 58] := h1
    refine (dead_a (h.quiet h1.chg.ext)).mono fun e w2 ⟨he, hx2⟩ => ⟨_, he, yes hd ?_⟩
    exact st10 (a := sup0) (b := sup0) (h1.quiet hx2) fun w3 h3 => rd10 h3 (k := k2) (t := 58) (by repeat (first | exact List.Mem.head _ | refine List.Mem.tail _ ?_)) ⟨rfl, h3.chg.ext⟩
  · rw [if_neg hd]
    exact load_spec h hF (by simpa using hd) .any .any
theorem saveF_d (h : Dr p a F w0 w X) (hF : a.Few 999998) {s : SupV} (hu : U64S s) :
    Calls Try.prog 35 #[.pointer (some ⟨p, 0, none⟩), .agg (supC s)] w fun e w' => e = .returned (.int .i64 (saveF a s).2) ∧ Dr p (saveF a s).1 F w0 w' X := by
  refine (slots_Save_calls (R := fun v w' => v = .int .i64 (saveF a s).2 ∧ Dr p (saveF a s).1 F w0 w' X) ?_).mono fun e w' ⟨v, he, hv, hd⟩ => ⟨by rw [he, hv], hd⟩
  unfold slots_Save
  refine Alloc.t (T.nil w) fun k3 w1 h1 => ?_
  have h1 : T [] w w1 [blk k3 (supC s) 58] := h1
  refine rd10 h1 List.mem_cons_self ?_
  refine (sencodeF_spec hu w1).mono fun e w2 ⟨he, hx2⟩ => ⟨_, _, he, ?_⟩
  have h2 := h1.quiet hx2
  have hd2 := h.quiet h2.chg.ext
  unfold saveF
  by_cases hm : MayF s
  case neg =>
    have hen : encF s = ([], 1) := if_neg hm
    rw [hen, if_neg hm]
    exact yes rfl ⟨rfl, hd2⟩
  rw [encF_may hm, if_pos hm]
  refine no rfl ?_
  have he := hu.2
  have hev : IntKind.i64.wrap (bits2 .and .u64 s.events 1) = s.events % 2 := by
    have e : ∀ n : Nat, BitVec.ofInt 64 (n : Int) = BitVec.ofNat 64 n := fun n => by simp
    obtain ⟨m, hm⟩ : ∃ m : Nat, s.events = (m : Int) := ⟨s.events.toNat, by omega⟩
    rw [hm] at he ⊢
    have h0 : bits2 .and .u64 (m : Int) 1 = IntKind.u64.wrap (((BitVec.ofNat 64 m &&& BitVec.ofNat 64 1).toNat : Nat) : Int) := by
      have := e 1
      unfold bits2
      simp only [IntKind.bits, e]
      rfl
    rw [h0, BitVec.toNat_and, BitVec.toNat_ofNat, BitVec.toNat_ofNat, Nat.mod_eq_of_lt (by omega), show 1 % 2 ^ 64 = 1 from rfl, Nat.and_one_is_mod, wrapU64]
    rw [wrap64 _ (by omega) (by omega)]
    omega
  refine ⟨_, h2.ld List.mem_cons_self rfl, ?_⟩
  rw [hev]
  refine (write_a hd2 (hF.mono (by decide)) (s.events % 2) (strB (encS s))).mono fun e w3 ⟨he, hd3⟩ => ⟨_, he, bne_t fun hp => ?_, bne_f fun hp => ?_⟩
  · rw [if_neg hp]
    have : a.write (s.events % 2) (strB (encS s)) = a := by unfold AD.write; rw [if_pos hp]
    rw [this] at hd3
    exact ⟨rfl, hd3⟩
  · rw [if_pos hp]
    exact (flush_a hd3 ((hF.write _ _).mono (by decide))).mono fun e w4 ⟨he, hd4⟩ => ⟨_, he, rfl, hd4⟩
theorem nextF_d (h : Dr p a F w0 w X) (hF : a.Few 999998) {s : SupV} (hu : U64S s) :
    Calls Try.prog 37 #[.pointer (some ⟨p, 0, none⟩), .agg (supC s)] w fun e w' => e = .returned (.tuple #[.agg (supC (nextF a s).1), .int .i64 (nextF a s).2]) ∧ Dr p (saveF a (nextS a s)).1 F w0 w' X := by
  refine (slots_Next_calls (R := fun v w' => v = .tuple #[.agg (supC (nextF a s).1), .int .i64 (nextF a s).2] ∧ Dr p (saveF a (nextS a s)).1 F w0 w' X) ?_).mono fun e w' ⟨v, he, hv, hd⟩ => ⟨by rw [he, hv], hd⟩
  unfold slots_Next
  refine Dr.alloc h fun k3 w1 h1 => Dr.alloc h1 fun k4 w2 h2 => Join.intro fun J hJ => ?_
  have h2 : Dr p a F w0 w2 (blk k4 (supC sup0) 58 :: blk k3 (supC s) 58 :: X) := h2
  have main : ∀ w3, Dr p a F w0 w3 (blk k3 (supC { s with events := if (loadF a).2 = 0 then (loadF a).1.events else s.events }) 58 :: blk k4 (supC sup0) 58 :: X) → J [] w3 := by
    intro w3 h3
    refine hJ _ _ ⟨rfl, _, h3.under.ld List.mem_cons_self rfl, ?_⟩
    refine Dr.st1 (c' := supC (nextS a s)) h3 (show 1 < 10 by decide) rfl rfl fun w4 h4 => rd10 h4.under (a := nextS a s) (k := k3) (t := 58) (by repeat (first | exact List.Mem.head _ | refine List.Mem.tail _ ?_)) ?_
    refine (saveF_d h4 hF (nextS_u64 a hu)).mono fun e w5 ⟨he, h5⟩ => ⟨_, he, ?_⟩
    unfold nextF
    refine ⟨bne_t fun hz => ?_, bne_f fun hz => ?_⟩
    · rw [if_neg hz]
      exact Dr.st10 (x := sup0) (y := sup0) (h5.perm (.swap _ _ _)) fun w6 h6 => rd10 h6.under (a := sup0) (k := k4) (t := 58) (by repeat (first | exact List.Mem.head _ | refine List.Mem.tail _ ?_)) ⟨rfl, h6.dropX.dropX⟩
    · rw [if_pos hz]
      refine rd10 h5.under (a := nextS a s) (k := k3) (t := 58) (by repeat (first | exact List.Mem.head _ | refine List.Mem.tail _ ?_)) ?_
      exact Dr.st10 (x := sup0) (y := nextS a s) (h5.perm (.swap _ _ _)) fun w6 h6 => rd10 h6.under (a := nextS a s) (k := k4) (t := 58) (by repeat (first | exact List.Mem.head _ | refine List.Mem.tail _ ?_)) ⟨rfl, h6.dropX.dropX⟩
  refine (loadF_spec h2 (hF.mono (by decide))).mono fun e w5 ⟨he, hx5⟩ => ⟨_, _, _, _, _, _, _, _, _, _, _, he, ?_⟩
  have h5 := h2.quiet hx5
  refine Dr.alloc h5 fun k6 w6 h6 => Dr.st10 (x := sup0) (y := (loadF a).1) h6 fun w7 h7 => ⟨beq_t fun hz => ?_, beq_f fun hz => ?_⟩
  · refine ⟨(loadF a).1.events, h7.under.ld List.mem_cons_self rfl, ?_⟩
    refine Dr.st1 (c' := supC { s with events := (loadF a).1.events }) (h7.dropX.perm (.swap _ _ _)) (show 1 < 10 by decide) rfl rfl fun w8 h8 => main w8 ?_
    rw [if_pos hz]; exact h8
  · refine main w7 ?_
    rw [if_neg hz]; exact h7.dropX.perm (.swap _ _ _)
end
end Go.Proofs.Ytdppllkjibfjcaa
end
