import Derived.Test.YtdppllkjibfjcaaSu1
import Derived.Test.YtdppllkjibfjcaaChk
/-! super: May, parts, widths. -/
namespace Go.Proofs.Ytdppllkjibfjcaa
open Go.Sh Go.RowKit
set_option linter.unusedVariables false
set_option maxRecDepth 20000
set_option maxHeartbeats 1000000
/-- a superblock that may be, of a column of an array that does not grow -/
structure MayS (a : SupV) : Prop where
  uuid : 1 ≤ a.uuid ∧ a.uuid < 18446744073709551616
  events : 0 ≤ a.events ∧ a.events < 18446744073709551616
  role : 0 ≤ a.role ∧ a.role < a.cols
  cols : 4 ≤ a.cols ∧ a.cols ≤ 10
  chunk : 1 ≤ a.chunk ∧ a.chunk ≤ 4
  rows : 1 ≤ a.rows ∧ a.rows ≤ 256
  built : 0 ≤ a.built ∧ a.built ≤ a.rows
  new : a.new = 0
  grown : a.grown = 0
theorem within_spec {n lo hi : Int} (h : lo ≤ n ∧ n ≤ hi) (w : World) : Ret Try.prog 72 #[.int .i64 n, .int .i64 lo, .int .i64 hi] w (.bool true) := by
  refine ret_of (super_May_1_calls ?_)
  unfold super_May_1
  exact yes (decide_eq_true (by omega)) ⟨by rw [decide_eq_true h.2], Ext.refl w⟩
theorem rd10 {F : List Nat} {w0 w : World} {Γ : List A} {k : Nat} {t : TypeId} {a : SupV} (h : T F w0 w Γ) (hm : blk k (supC a) t ∈ Γ) {Q : Int → Int → Int → Int → Int → Int → Bool → Int → Int → Int → Prop} (hQ : Q a.uuid a.events a.role a.cols a.chunk a.rows a.clean a.built a.new a.grown) :
    ∃ n0 : Int, ∃ n1 : Int, ∃ n2 : Int, ∃ n3 : Int, ∃ n4 : Int, ∃ n5 : Int, ∃ b6 : Bool, ∃ n7 : Int, ∃ n8 : Int, ∃ n9 : Int, (w.cell? ⟨k, 0, none⟩ = some (.int .u64 n0) ∧ w.cell? ⟨k, 1, none⟩ = some (.int .u64 n1) ∧ w.cell? ⟨k, 2, none⟩ = some (.int .i64 n2) ∧ w.cell? ⟨k, 3, none⟩ = some (.int .i64 n3) ∧ w.cell? ⟨k, 4, none⟩ = some (.int .i64 n4) ∧ w.cell? ⟨k, 5, none⟩ = some (.int .i64 n5) ∧ w.cell? ⟨k, 6, none⟩ = some (.bool b6) ∧ w.cell? ⟨k, 7, none⟩ = some (.int .i64 n7) ∧ w.cell? ⟨k, 8, none⟩ = some (.int .i64 n8) ∧ w.cell? ⟨k, 9, none⟩ = some (.int .i64 n9)) ∧ Q n0 n1 n2 n3 n4 n5 b6 n7 n8 n9 :=
  ⟨_, _, _, _, _, _, _, _, _, _, ⟨h.ld hm rfl, h.ld hm rfl, h.ld hm rfl, h.ld hm rfl, h.ld hm rfl, h.ld hm rfl, h.ld hm rfl, h.ld hm rfl, h.ld hm rfl, h.ld hm rfl⟩, hQ⟩
/-- ten stores, one behind the other -/
theorem st10 {F : List Nat} {w0 w : World} {Γ : List A} {k : Nat} {t : TypeId} {a b : SupV} (hT : T F w0 w (blk k (supC a) t :: Γ)) {K : World → Prop} (hK : ∀ w', T F w0 w' (blk k (supC b) t :: Γ) → K w') :
    St ⟨k, 0, none⟩ (.int .u64 b.uuid) w fun w1 => St ⟨k, 1, none⟩ (.int .u64 b.events) w1 fun w2 => St ⟨k, 2, none⟩ (.int .i64 b.role) w2 fun w3 => St ⟨k, 3, none⟩ (.int .i64 b.cols) w3 fun w4 => St ⟨k, 4, none⟩ (.int .i64 b.chunk) w4 fun w5 => St ⟨k, 5, none⟩ (.int .i64 b.rows) w5 fun w6 =>
      St ⟨k, 6, none⟩ (.bool b.clean) w6 fun w7 => St ⟨k, 7, none⟩ (.int .i64 b.built) w7 fun w8 => St ⟨k, 8, none⟩ (.int .i64 b.new) w8 fun w9 => St ⟨k, 9, none⟩ (.int .i64 b.grown) w9 K := by
  have h0 : T F w0 w (blk k #[.int .u64 a.uuid, .int .u64 a.events, .int .i64 a.role, .int .i64 a.cols, .int .i64 a.chunk, .int .i64 a.rows, .bool a.clean, .int .i64 a.built, .int .i64 a.new, .int .i64 a.grown] t :: Γ) := hT
  refine St.t (c' := #[.int .u64 b.uuid, .int .u64 a.events, .int .i64 a.role, .int .i64 a.cols, .int .i64 a.chunk, .int .i64 a.rows, .bool a.clean, .int .i64 a.built, .int .i64 a.new, .int .i64 a.grown]) h0 .head (show 0 < 10 by decide) rfl rfl fun w1 h1 => ?_
  refine St.t (c' := #[.int .u64 b.uuid, .int .u64 b.events, .int .i64 a.role, .int .i64 a.cols, .int .i64 a.chunk, .int .i64 a.rows, .bool a.clean, .int .i64 a.built, .int .i64 a.new, .int .i64 a.grown]) h1 .head (show 1 < 10 by decide) rfl rfl fun w2 h2 => ?_
  refine St.t (c' := #[.int .u64 b.uuid, .int .u64 b.events, .int .i64 b.role, .int .i64 a.cols, .int .i64 a.chunk, .int .i64 a.rows, .bool a.clean, .int .i64 a.built, .int .i64 a.new, .int .i64 a.grown]) h2 .head (show 2 < 10 by decide) rfl rfl fun w3 h3 => ?_
  refine St.t (c' := #[.int .u64 b.uuid, .int .u64 b.events, .int .i64 b.role, .int .i64 b.cols, .int .i64 a.chunk, .int .i64 a.rows, .bool a.clean, .int .i64 a.built, .int .i64 a.new, .int .i64 a.grown]) h3 .head (show 3 < 10 by decide) rfl rfl fun w4 h4 => ?_
  refine St.t (c' := #[.int .u64 b.uuid, .int .u64 b.events, .int .i64 b.role, .int .i64 b.cols, .int .i64 b.chunk, .int .i64 a.rows, .bool a.clean, .int .i64 a.built, .int .i64 a.new, .int .i64 a.grown]) h4 .head (show 4 < 10 by decide) rfl rfl fun w5 h5 => ?_
  refine St.t (c' := #[.int .u64 b.uuid, .int .u64 b.events, .int .i64 b.role, .int .i64 b.cols, .int .i64 b.chunk, .int .i64 b.rows, .bool a.clean, .int .i64 a.built, .int .i64 a.new, .int .i64 a.grown]) h5 .head (show 5 < 10 by decide) rfl rfl fun w6 h6 => ?_
  refine St.t (c' := #[.int .u64 b.uuid, .int .u64 b.events, .int .i64 b.role, .int .i64 b.cols, .int .i64 b.chunk, .int .i64 b.rows, .bool b.clean, .int .i64 a.built, .int .i64 a.new, .int .i64 a.grown]) h6 .head (show 6 < 10 by decide) rfl rfl fun w7 h7 => ?_
  refine St.t (c' := #[.int .u64 b.uuid, .int .u64 b.events, .int .i64 b.role, .int .i64 b.cols, .int .i64 b.chunk, .int .i64 b.rows, .bool b.clean, .int .i64 b.built, .int .i64 a.new, .int .i64 a.grown]) h7 .head (show 7 < 10 by decide) rfl rfl fun w8 h8 => ?_
  refine St.t (c' := #[.int .u64 b.uuid, .int .u64 b.events, .int .i64 b.role, .int .i64 b.cols, .int .i64 b.chunk, .int .i64 b.rows, .bool b.clean, .int .i64 b.built, .int .i64 b.new, .int .i64 a.grown]) h8 .head (show 8 < 10 by decide) rfl rfl fun w9 h9 => ?_
  refine St.t (c' := #[.int .u64 b.uuid, .int .u64 b.events, .int .i64 b.role, .int .i64 b.cols, .int .i64 b.chunk, .int .i64 b.rows, .bool b.clean, .int .i64 b.built, .int .i64 b.new, .int .i64 b.grown]) h9 .head (show 9 < 10 by decide) rfl rfl fun w10 h10 => ?_
  exact hK w10 h10
theorem smay_spec {a : SupV} (h : MayS a) (w : World) : Ret Try.prog 61 #[.agg (supC a)] w (.bool true) := by
  refine ret_of (super_May_calls ?_)
  unfold super_May
  refine Alloc.t (T.nil w) fun k1 w1 h1 => ?_
  have h1 : T [] w w1 [blk k1 (supC a) 58] := h1
  refine Join.intro fun J hJ => Join.intro fun J1 hJ1 => ?_
  have hne : decide (a = sup0) = false := by
    rw [decide_eq_false_iff_not]
    intro e
    have := h.uuid
    rw [e] at this
    simp at this
  refine rd10 h1 List.mem_cons_self ⟨_, w1, eql_sup a sup0 _ _ w1, ?_⟩
  rw [hne]
  refine ⟨fun e => (by cases e), fun _ => ⟨_, h1.ld List.mem_cons_self rfl, no (by have := h.uuid; simp; omega) ⟨_, _, _, ⟨h1.ld List.mem_cons_self rfl, h1.ld List.mem_cons_self rfl, h1.ld List.mem_cons_self rfl⟩, ?_⟩⟩⟩
  refine (check_spec a.cols a.chunk a.rows w1).mono fun e w2 ⟨he, hx2⟩ => ⟨_, he, ?_⟩
  rw [if_pos (by have := h.cols; have := h.chunk; have := h.rows; unfold OkG; omega)]
  have h2 := h1.quiet hx2
  refine hJ1 _ _ ⟨_, rfl, fun e => (by cases e), fun _ => Join.intro fun J2 hJ2 => ?_⟩
  refine ⟨_, h2.ld List.mem_cons_self rfl, no (by rw [h.new]; rfl) ⟨_, h2.ld List.mem_cons_self rfl, yes (by rw [h.new]; rfl) ⟨_, h2.ld List.mem_cons_self rfl, hJ2 _ _ ⟨_, rfl, fun e => ?_, fun _ => ?_⟩⟩⟩⟩
  · rw [h.grown] at e; cases e
  · have rng : a.role ≠ 254 ∧ a.role ≠ 255 := by have := h.role; have := h.cols; omega
    refine ⟨_, h2.ld List.mem_cons_self rfl, yes (by simpa using rng.1) ⟨_, h2.ld List.mem_cons_self rfl, yes (by simpa using rng.2) ⟨_, h2.ld List.mem_cons_self rfl, _, h2.ld List.mem_cons_self rfl, _, h2.ld List.mem_cons_self rfl, _, w2, max_run _ _ _ _ _ _, ?_⟩⟩⟩
    rw [h.new, if_neg (by have := h.cols; omega), wrap64 _ (by have := h.cols; omega) (by have := h.cols; omega)]
    refine (within_spec (by have := h.role; omega) w2).mono fun e w3 ⟨he, hx3⟩ => ⟨_, he, fun e => (by cases e), fun _ => hJ _ _ ?_⟩
    have h3 := h2.quiet hx3
    refine ⟨rfl, _, h3.ld List.mem_cons_self rfl, _, h3.ld List.mem_cons_self rfl, (within_spec h.built w3).mono fun e w4 ⟨he, hx4⟩ => ⟨_, he, fun _ => ?_, fun e => (by cases e)⟩⟩
    have h4 := h3.quiet hx4
    refine ⟨_, h4.ld List.mem_cons_self rfl, _, h4.ld List.mem_cons_self rfl, (within_spec (by rw [h.grown]; have := h.rows; omega) w4).mono fun e w5 ⟨he, hx5⟩ => ⟨_, he, rfl, (h4.quiet hx5).chg.ext⟩⟩
def partC (k kc : Nat) (pc : Option Addr) : Array Value := #[.pointer (some ⟨k, 2, none⟩), .int .i64 1, .pointer (some ⟨k, 3, none⟩), .int .i64 1, .pointer (some ⟨k, 4, none⟩), .int .i64 1, .pointer (some ⟨k, 5, none⟩), .int .i64 2, .pointer pc, .int .i64 1, .pointer (some ⟨k, 7, none⟩), .int .i64 2, .pointer (some ⟨k, 8, none⟩), .int .i64 1, .pointer (some ⟨k, 9, none⟩), .int .i64 2]
theorem parts_spec (k : Nat) (pc : Option Addr) {F : List Nat} {w0 w : World} {Γ : List A} (hT : T F w0 w Γ) :
    Calls Try.prog 62 #[.pointer (some ⟨k, 0, none⟩), .pointer pc] w fun e w' => ∃ b, e = .returned (.slice (some ⟨b, 0, none⟩) 8 8) ∧ T F w0 w' (blk b (partC k 0 pc) 99 :: Γ) := by
  refine (super_Super_parts_calls (R := fun v w' => ∃ b, v = .slice (some ⟨b, 0, none⟩) 8 8 ∧ T F w0 w' (blk b (partC k 0 pc) 99 :: Γ)) ?_).mono fun e w' ⟨v, he, b, hv, h⟩ => ⟨b, by rw [he, hv], h⟩
  unfold super_Super_parts
  refine ⟨fun _ => True, trivial, _, rfl, _, rfl, _, rfl, _, rfl, _, rfl, _, rfl, _, rfl, Alloc.t hT.drew fun b w1 h1 => ⟨trivial, b, rfl, ?_⟩⟩
  simpa only [partC, addr_add, Nat.zero_add] using h1
def supW : List Nat := [4, 8, 8, 1, 1, 1, 2, 1, 2, 1, 2]
theorem supW_wid : Wid supW := ⟨by decide, by decide⟩
end Go.Proofs.Ytdppllkjibfjcaa
