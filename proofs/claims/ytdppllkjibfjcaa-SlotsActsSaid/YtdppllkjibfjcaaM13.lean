import Derived.Laws.StructEq
import Derived.Test.YtdppllkjibfjcaaM12
section
/-! super: superblocks as values; when two are the same. -/
namespace Go.Proofs.Ytdppllkjibfjcaa
open Go.Sh Go.RowKit
set_option linter.unusedVariables false
set_option maxRecDepth 20000
set_option maxHeartbeats 1000000
structure SupV where
  uuid : Int
  events : Int
  role : Int
  cols : Int
  chunk : Int
  rows : Int
  clean : Bool
  built : Int
  new : Int
  grown : Int
deriving DecidableEq
def supC (a : SupV) : Array Value := #[.int .u64 a.uuid, .int .u64 a.events, .int .i64 a.role, .int .i64 a.cols, .int .i64 a.chunk, .int .i64 a.rows, .bool a.clean, .int .i64 a.built, .int .i64 a.new, .int .i64 a.grown]
abbrev sup0 : SupV := ⟨0, 0, 0, 0, 0, 0, false, 0, 0, 0⟩
theorem geoFields : (Try.prog.fieldsOf 56).toList = [Field.mk "Cols" 3 0 false "" "" 0, Field.mk "Chunk" 3 1 false "" "" 8, Field.mk "Rows" 3 2 false "" "" 16] := by kernel_rfl
theorem supFields : (Try.prog.fieldsOf 58).toList = [Field.mk "UUID" 53 0 false "" "" 0, Field.mk "Events" 53 1 false "" "" 8, Field.mk "Role" 3 2 false "" "" 16, Field.mk "Geo" 56 3 false "" "" 24,
  Field.mk "Clean" 4 6 false "" "" 48, Field.mk "Built" 3 7 false "" "" 56, Field.mk "New" 3 8 false "" "" 64, Field.mk "Grown" 3 9 false "" "" 72] := by kernel_rfl
theorem pt0 (a : SupV) (w : World) : (part 53 (supC a) 0).run Try.prog w = .ok (.int .u64 a.uuid) w := by kernel_rfl
theorem pt1 (a : SupV) (w : World) : (part 53 (supC a) 1).run Try.prog w = .ok (.int .u64 a.events) w := by kernel_rfl
theorem pt2 (a : SupV) (w : World) : (part 3 (supC a) 2).run Try.prog w = .ok (.int .i64 a.role) w := by kernel_rfl
theorem pt3 (a : SupV) (w : World) : (part 56 (supC a) 3).run Try.prog w = .ok (.agg #[.int .i64 a.cols, .int .i64 a.chunk, .int .i64 a.rows]) w := by kernel_rfl
theorem pt6 (a : SupV) (w : World) : (part 4 (supC a) 6).run Try.prog w = .ok (.bool a.clean) w := by kernel_rfl
theorem pt7 (a : SupV) (w : World) : (part 3 (supC a) 7).run Try.prog w = .ok (.int .i64 a.built) w := by kernel_rfl
theorem pt8 (a : SupV) (w : World) : (part 3 (supC a) 8).run Try.prog w = .ok (.int .i64 a.new) w := by kernel_rfl
theorem pt9 (a : SupV) (w : World) : (part 3 (supC a) 9).run Try.prog w = .ok (.int .i64 a.grown) w := by kernel_rfl
theorem pg0 (a b c : Int) (w : World) : (part 3 #[.int .i64 a, .int .i64 b, .int .i64 c] 0).run Try.prog w = .ok (.int .i64 a) w := by kernel_rfl
theorem pg1 (a b c : Int) (w : World) : (part 3 #[.int .i64 a, .int .i64 b, .int .i64 c] 1).run Try.prog w = .ok (.int .i64 b) w := by kernel_rfl
theorem pg2 (a b c : Int) (w : World) : (part 3 #[.int .i64 a, .int .i64 b, .int .i64 c] 2).run Try.prog w = .ok (.int .i64 c) w := by kernel_rfl
theorem eq_u64 (d : Nat) (w : World) (a b : Int) : (Op.equalIn (d + 1) 53 (.int .u64 a) (.int .u64 b)).run Try.prog w = .ok (a == b) w := run_equalIn_int w d 53 .u64 .u64 a b (by kernel_rfl)
theorem eq_int (d : Nat) (w : World) (a b : Int) : (Op.equalIn (d + 1) 3 (.int .i64 a) (.int .i64 b)).run Try.prog w = .ok (a == b) w := run_equalIn_int w d 3 .i64 .i64 a b (by kernel_rfl)
theorem eq_bool (d : Nat) (w : World) (a b : Bool) : (Op.equalIn (d + 1) 4 (.bool a) (.bool b)).run Try.prog w = .ok (a == b) w := run_equalIn_bool' w d 4 a b (by kernel_rfl)
theorem eqStep {P : Program} {w : World} {d : Nat} {xs ys : Array Value} {fs : List Field} {a b : Value} {r : Bool} (nm : String) (ty : TypeId) (o : Nat) (e : Bool) (s1 s2 : String) (by_ : Nat) (hf : nm ≠ "_") (ha : (part ty xs o).run P w = .ok a w) (hb : (part ty ys o).run P w = .ok b w) (he : (Op.equalIn d ty a b).run P w = .ok r w)
    {q : Bool} (hr : (Op.eqFields d xs ys fs).run P w = .ok q w) : (Op.eqFields d xs ys (Field.mk nm ty o e s1 s2 by_ :: fs)).run P w = .ok (r && q) w := by
  simp only [Op.eqFields, if_pos hf, Sem.run_bind, ha, hb, he, Result.andThen_ok]
  cases r
  · simp
  · simp [hr]
theorem eqNil {P : Program} {w : World} {d : Nat} {xs ys : Array Value} : (Op.eqFields d xs ys []).run P w = .ok true w := by simp [Op.eqFields]
theorem eq_geo (d : Nat) (w : World) (a b c a' b' c' : Int) : (Op.equalIn (d + 2) 56 (.agg #[.int .i64 a, .int .i64 b, .int .i64 c]) (.agg #[.int .i64 a', .int .i64 b', .int .i64 c'])).run Try.prog w = .ok ((a == a') && ((b == b') && ((c == c') && true))) w := by
  rw [run_equalIn_agg w (d + 1) 56 _ _ (by kernel_rfl) (by kernel_rfl), geoFields]
  exact eqStep _ _ _ _ _ _ _ (by decide) (pg0 ..) (pg0 ..) (eq_int d ..) (eqStep _ _ _ _ _ _ _ (by decide) (pg1 ..) (pg1 ..) (eq_int d ..) (eqStep _ _ _ _ _ _ _ (by decide) (pg2 ..) (pg2 ..) (eq_int d ..) eqNil))
theorem equal_sup (d : Nat) (a b : SupV) (w : World) : (Op.equalIn (d + 3) 58 (.agg (supC a)) (.agg (supC b))).run Try.prog w = .ok (decide (a = b)) w := by
  rw [run_equalIn_agg w (d + 2) 58 _ _ (by kernel_rfl) (by kernel_rfl), supFields]
  have h8 : (Op.eqFields (d + 2) (supC a) (supC b) []).run Try.prog w = .ok true w := eqNil
  have h7 := eqStep "Grown" 3 9 false "" "" 72 (by decide) (pt9 a w) (pt9 b w) (eq_int (d + 1) _ _ _) h8
  have h6 := eqStep "New" 3 8 false "" "" 64 (by decide) (pt8 a w) (pt8 b w) (eq_int (d + 1) _ _ _) h7
  have h5 := eqStep "Built" 3 7 false "" "" 56 (by decide) (pt7 a w) (pt7 b w) (eq_int (d + 1) _ _ _) h6
  have h4 := eqStep "Clean" 4 6 false "" "" 48 (by decide) (pt6 a w) (pt6 b w) (eq_bool (d + 1) _ _ _) h5
  have h3 := eqStep "Geo" 56 3 false "" "" 24 (by decide) (pt3 a w) (pt3 b w) (eq_geo d _ _ _ _ _ _ _) h4
  have h2 := eqStep "Role" 3 2 false "" "" 16 (by decide) (pt2 a w) (pt2 b w) (eq_int (d + 1) _ _ _) h3
  have h1 := eqStep "Events" 53 1 false "" "" 8 (by decide) (pt1 a w) (pt1 b w) (eq_u64 (d + 1) _ _ _) h2
  have h0 := eqStep "UUID" 53 0 false "" "" 0 (by decide) (pt0 a w) (pt0 b w) (eq_u64 (d + 1) _ _ _) h1
  refine h0.trans ?_
  congr 1
  obtain ⟨a0, a1, a2, a3, a4, a5, a6, a7, a8, a9⟩ := a
  obtain ⟨b0, b1, b2, b3, b4, b5, b6, b7, b8, b9⟩ := b
  simp only [SupV.mk.injEq]
  rw [Bool.eq_iff_iff]
  simp only [Bool.and_eq_true, beq_iff_eq, decide_eq_true_eq, Bool.and_true]
  constructor
  · rintro ⟨h0, h1, h2, ⟨h3, h4, h5⟩, h6, h7, h8, h9⟩
    exact ⟨h0, h1, h2, h3, h4, h5, h6, h7, h8, h9⟩
  · rintro ⟨h0, h1, h2, h3, h4, h5, h6, h7, h8, h9⟩
    exact ⟨h0, h1, h2, ⟨h3, h4, h5⟩, h6, h7, h8, h9⟩
theorem eql_sup (a b : SupV) (x y : Operand) (w : World) : (do eqGuard .eql 58 x y (.agg (supC a)) (.agg (supC b)); binOp .eql 58 (.agg (supC a)) (.agg (supC b)) : Sem Value).run Try.prog w = .ok (.bool (decide (a = b))) w := by
  rw [Sem.run_bind, run_eqGuard_agg _ _ _ _ _ _ _ (by kernel_rfl), Result.andThen_ok, run_eql_struct, equal_sup 9997 a b w]
  rfl
theorem neq_sup (a b : SupV) (x y : Operand) (w : World) : (do eqGuard .neq 58 x y (.agg (supC a)) (.agg (supC b)); binOp .neq 58 (.agg (supC a)) (.agg (supC b)) : Sem Value).run Try.prog w = .ok (.bool (!decide (a = b))) w := by
  rw [Sem.run_bind, run_eqGuard_agg _ _ _ _ _ _ _ (by kernel_rfl), Result.andThen_ok, run_neq_struct, equal_sup 9997 a b w]
  rfl
end Go.Proofs.Ytdppllkjibfjcaa
end
section
/-! super: May, parts, widths. -/
namespace Go.Proofs.Ytdppllkjibfjcaa
open Go.Sh Go.RowKit
set_option linter.unusedVariables false
set_option maxRecDepth 20000
set_option maxHeartbeats 1000000
/-- a superblock that may be, of a column of an array that does not grow -/
structure MayS (a : SupV) : Prop where
  uuid : 1 ≤ a.uuid ∧ a.uuid < 18446744073709551616
  events : 0 ≤ a.events ∧ a.events < 18446744073709551616
  role : 0 ≤ a.role ∧ a.role < a.cols
  cols : 4 ≤ a.cols ∧ a.cols ≤ 10
  chunk : 1 ≤ a.chunk ∧ a.chunk ≤ 4
  rows : 1 ≤ a.rows ∧ a.rows ≤ 256
  built : 0 ≤ a.built ∧ a.built ≤ a.rows
  new : a.new = 0
  grown : a.grown = 0
theorem within_spec {n lo hi : Int} (h : lo ≤ n ∧ n ≤ hi) (w : World) : Ret Try.prog 72 #[.int .i64 n, .int .i64 lo, .int .i64 hi] w (.bool true) := by
  refine ret_of (super_May_1_calls ?_)
  unfold super_May_1
  exact yes (decide_eq_true (by omega)) ⟨by rw [decide_eq_true h.2], Ext.refl w⟩
theorem rd10 {F : List Nat} {w0 w : World} {Γ : List A} {k : Nat} {t : TypeId} {a : SupV} (h : T F w0 w Γ) (hm : blk k (supC a) t ∈ Γ) {Q : Int → Int → Int → Int → Int → Int → Bool → Int → Int → Int → Prop} (hQ : Q a.uuid a.events a.role a.cols a.chunk a.rows a.clean a.built a.new a.grown) :
    ∃ n0 : Int, ∃ n1 : Int, ∃ n2 : Int, ∃ n3 : Int, ∃ n4 : Int, ∃ n5 : Int, ∃ b6 : Bool, ∃ n7 : Int, ∃ n8 : Int, ∃ n9 : Int, (w.cell? ⟨k, 0, none⟩ = some (.int .u64 n0) ∧ w.cell? ⟨k, 1, none⟩ = some (.int .u64 n1) ∧ w.cell? ⟨k, 2, none⟩ = some (.int .i64 n2) ∧ w.cell? ⟨k, 3, none⟩ = some (.int .i64 n3) ∧ w.cell? ⟨k, 4, none⟩ = some (.int .i64 n4) ∧ w.cell? ⟨k, 5, none⟩ = some (.int .i64 n5) ∧ w.cell? ⟨k, 6, none⟩ = some (.bool b6) ∧ w.cell? ⟨k, 7, none⟩ = some (.int .i64 n7) ∧ w.cell? ⟨k, 8, none⟩ = some (.int .i64 n8) ∧ w.cell? ⟨k, 9, none⟩ = some (.int .i64 n9)) ∧ Q n0 n1 n2 n3 n4 n5 b6 n7 n8 n9 :=
  ⟨_, _, _, _, _, _, _, _, _, _, ⟨h.ld hm rfl, h.ld hm rfl, h.ld hm rfl, h.ld hm rfl, h.ld hm rfl, h.ld hm rfl, h.ld hm rfl, h.ld hm rfl, h.ld hm rfl, h.ld hm rfl⟩, hQ⟩
/-- ten stores, one behind the other -/
theorem st10 {F : List Nat} {w0 w : World} {Γ : List A} {k : Nat} {t : TypeId} {a b : SupV} (hT : T F w0 w (blk k (supC a) t :: Γ)) {K : World → Prop} (hK : ∀ w', T F w0 w' (blk k (supC b) t :: Γ) → K w') :
    St ⟨k, 0, none⟩ (.int .u64 b.uuid) w fun w1 => St ⟨k, 1, none⟩ (.int .u64 b.events) w1 fun w2 => St ⟨k, 2, none⟩ (.int .i64 b.role) w2 fun w3 => St ⟨k, 3, none⟩ (.int .i64 b.cols) w3 fun w4 => St ⟨k, 4, none⟩ (.int .i64 b.chunk) w4 fun w5 => St ⟨k, 5, none⟩ (.int .i64 b.rows) w5 fun w6 =>
      St ⟨k, 6, none⟩ (.bool b.clean) w6 fun w7 => St ⟨k, 7, none⟩ (.int .i64 b.built) w7 fun w8 => St ⟨k, 8, none⟩ (.int .i64 b.new) w8 fun w9 => St ⟨k, 9, none⟩ (.int .i64 b.grown) w9 K := by
  have h0 : T F w0 w (blk k #[.int .u64 a.uuid, .int .u64 a.events, .int .i64 a.role, .int .i64 a.cols, .int .i64 a.chunk, .int .i64 a.rows, .bool a.clean, .int .i64 a.built, .int .i64 a.new, .int .i64 a.grown] t :: Γ) := hT
  refine St.t (c' := #[.int .u64 b.uuid, .int .u64 a.events, .int .i64 a.role, .int .i64 a.cols, .int .i64 a.chunk, .int .i64 a.rows, .bool a.clean, .int .i64 a.built, .int .i64 a.new, .int .i64 a.grown]) h0 .head (show 0 < 10 by decide) rfl rfl fun w1 h1 => ?_
  refine St.t (c' := #[.int .u64 b.uuid, .int .u64 b.events, .int .i64 a.role, .int .i64 a.cols, .int .i64 a.chunk, .int .i64 a.rows, .bool a.clean, .int .i64 a.built, .int .i64 a.new, .int .i64 a.grown]) h1 .head (show 1 < 10 by decide) rfl rfl fun w2 h2 => ?_
  refine St.t (c' := #[.int .u64 b.uuid, .int .u64 b.events, .int .i64 b.role, .int .i64 a.cols, .int .i64 a.chunk, .int .i64 a.rows, .bool a.clean, .int .i64 a.built, .int .i64 a.new, .int .i64 a.grown]) h2 .head (show 2 < 10 by decide) rfl rfl fun w3 h3 => ?_
  refine St.t (c' := #[.int .u64 b.uuid, .int .u64 b.events, .int .i64 b.role, .int .i64 b.cols, .int .i64 a.chunk, .int .i64 a.rows, .bool a.clean, .int .i64 a.built, .int .i64 a.new, .int .i64 a.grown]) h3 .head (show 3 < 10 by decide) rfl rfl fun w4 h4 => ?_
  refine St.t (c' := #[.int .u64 b.uuid, .int .u64 b.events, .int .i64 b.role, .int .i64 b.cols, .int .i64 b.chunk, .int .i64 a.rows, .bool a.clean, .int .i64 a.built, .int .i64 a.new, .int .i64 a.grown]) h4 .head (show 4 < 10 by decide) rfl rfl fun w5 h5 => ?_
  refine St.t (c' := #[.int .u64 b.uuid, .int .u64 b.events, .int .i64 b.role, .int .i64 b.cols, .int .i64 b.chunk, .int .i64 b.rows, .bool a.clean, .int .i64 a.built, .int .i64 a.new, .int .i64 a.grown]) h5 .head (show 5 < 10 by decide) rfl rfl fun w6 h6 => ?_
  refine St.t (c' := #[.int .u64 b.uuid, .int .u64 b.events, .int .i64 b.role, .int .i64 b.cols, .int .i64 b.chunk, .int .i64 b.rows, .bool b.clean, .int .i64 a.built, .int .i64 a.new, .int .i64 a.grown]) h6 .head (show 6 < 10 by decide) rfl rfl fun w7 h7 => ?_
  refine St.t (c' := #[.int .u64 b.uuid, .int .u64 b.events, .int .i64 b.role, .int .i64 b.cols, .int .i64 b.chunk, .int .i64 b.rows, .bool b.clean, .int .i64 b.built, .int .i64 a.new, .int .i64 a.grown]) h7 .head (show 7 < 10 by decide) rfl rfl fun w8 h8 => ?_
  refine St.t (c' := #[.int .u64 b.uuid, .int .u64 b.events, .int .i64 b.role, .int .i64 b.cols, .int .i64 b.chunk, .int .i64 b.rows, .bool b.clean, .int .i64 b.built, .int .i64 b.new, .int .i64 a.grown]) h8 .head (show 8 < 10 by decide) rfl rfl fun w9 h9 => ?_
  refine St.t (c' := #[.int .u64 b.uuid, .int .u64 b.events, .int .i64 b.role, .int .i64 b.cols, .int .i64 b.chunk, .int .i64 b.rows, .bool b.clean, .int .i64 b.built, .int .i64 b.new, .int .i64 b.grown]) h9 .head (show 9 < 10 by decide) rfl rfl fun w10 h10 => ?_
  exact hK w10 h10
theorem smay_spec {a : SupV} (h : MayS a) (w : World) : Ret Try.prog 61 #[.agg (supC a)] w (.bool true) := by
  refine ret_of (super_May_calls ?_)
  unfold super_May
  refine Alloc.t (T.nil w) fun k1 w1 h1 => ?_
  have h1 : T [] w w1 [blk k1 (supC a) 58] := h1
  refine Join.intro fun J hJ => Join.intro fun J1 hJ1 => ?_
  have hne : decide (a = sup0) = false := by
    rw [decide_eq_false_iff_not]
    intro e
    have := h.uuid
    rw [e] at this
    simp at this
  refine rd10 h1 List.mem_cons_self ⟨_, w1, eql_sup a sup0 _ _ w1, ?_⟩
  rw [hne]
  refine ⟨fun e => (by cases e), fun _ => ⟨_, h1.ld List.mem_cons_self rfl, no (by have := h.uuid; simp; omega) ⟨_, _, _, ⟨h1.ld List.mem_cons_self rfl, h1.ld List.mem_cons_self rfl, h1.ld List.mem_cons_self rfl⟩, ?_⟩⟩⟩
  refine (check_spec a.cols a.chunk a.rows w1).mono fun e w2 ⟨he, hx2⟩ => ⟨_, he, ?_⟩
  rw [if_pos (by have := h.cols; have := h.chunk; have := h.rows; unfold OkG; omega)]
  have h2 := h1.quiet hx2
  refine hJ1 _ _ ⟨_, rfl, fun e => (by cases e), fun _ => Join.intro fun J2 hJ2 => ?_⟩
  refine ⟨_, h2.ld List.mem_cons_self rfl, no (by rw [h.new]; rfl) ⟨_, h2.ld List.mem_cons_self rfl, yes (by rw [h.new]; rfl) ⟨_, h2.ld List.mem_cons_self rfl, hJ2 _ _ ⟨_, rfl, fun e => ?_, fun _ => ?_⟩⟩⟩⟩
  · rw [h.grown] at e; cases e
  · have rng : a.role ≠ 254 ∧ a.role ≠ 255 := by have := h.role; have := h.cols; omega
    refine ⟨_, h2.ld List.mem_cons_self rfl, yes (by simpa using rng.1) ⟨_, h2.ld List.mem_cons_self rfl, yes (by simpa using rng.2) ⟨_, h2.ld List.mem_cons_self rfl, _, h2.ld List.mem_cons_self rfl, _, h2.ld List.mem_cons_self rfl, _, w2, max_run _ _ _ _ _ _, ?_⟩⟩⟩
    rw [h.new, if_neg (by have := h.cols; omega), wrap64 _ (by have := h.cols; omega) (by have := h.cols; omega)]
    refine (within_spec (by have := h.role; omega) w2).mono fun e w3 ⟨he, hx3⟩ => ⟨_, he, fun e => (by cases e), fun _ => hJ _ _ ?_⟩
    have h3 := h2.quiet hx3
    refine ⟨rfl, _, h3.ld List.mem_cons_self rfl, _, h3.ld List.mem_cons_self rfl, (within_spec h.built w3).mono fun e w4 ⟨he, hx4⟩ => ⟨_, he, fun _ => ?_, fun e => (by cases e)⟩⟩
    have h4 := h3.quiet hx4
    refine ⟨_, h4.ld List.mem_cons_self rfl, _, h4.ld List.mem_cons_self rfl, (within_spec (by rw [h.grown]; have := h.rows; omega) w4).mono fun e w5 ⟨he, hx5⟩ => ⟨_, he, rfl, (h4.quiet hx5).chg.ext⟩⟩
def partC (k kc : Nat) (pc : Option Addr) : Array Value := #[.pointer (some ⟨k, 2, none⟩), .int .i64 1, .pointer (some ⟨k, 3, none⟩), .int .i64 1, .pointer (some ⟨k, 4, none⟩), .int .i64 1, .pointer (some ⟨k, 5, none⟩), .int .i64 2, .pointer pc, .int .i64 1, .pointer (some ⟨k, 7, none⟩), .int .i64 2, .pointer (some ⟨k, 8, none⟩), .int .i64 1, .pointer (some ⟨k, 9, none⟩), .int .i64 2]
theorem parts_spec (k : Nat) (pc : Option Addr) {F : List Nat} {w0 w : World} {Γ : List A} (hT : T F w0 w Γ) :
    Calls Try.prog 62 #[.pointer (some ⟨k, 0, none⟩), .pointer pc] w fun e w' => ∃ b, e = .returned (.slice (some ⟨b, 0, none⟩) 8 8) ∧ T F w0 w' (blk b (partC k 0 pc) 99 :: Γ) := by
  refine (super_Super_parts_calls (R := fun v w' => ∃ b, v = .slice (some ⟨b, 0, none⟩) 8 8 ∧ T F w0 w' (blk b (partC k 0 pc) 99 :: Γ)) ?_).mono fun e w' ⟨v, he, b, hv, h⟩ => ⟨b, by rw [he, hv], h⟩
  unfold super_Super_parts
  refine ⟨fun _ => True, trivial, _, rfl, _, rfl, _, rfl, _, rfl, _, rfl, _, rfl, _, rfl, Alloc.t hT.drew fun b w1 h1 => ⟨trivial, b, rfl, ?_⟩⟩
  simpa only [partC, addr_add, Nat.zero_add] using h1
def supW : List Nat := [4, 8, 8, 1, 1, 1, 2, 1, 2, 1, 2]
theorem supW_wid : Wid supW := ⟨by decide, by decide⟩
end Go.Proofs.Ytdppllkjibfjcaa
end
section
/-! super: widths, Encode. -/
namespace Go.Proofs.Ytdppllkjibfjcaa
open Go.Sh Go.RowKit
set_option linter.unusedVariables false
set_option maxRecDepth 20000
set_option maxHeartbeats 1000000
theorem push1_t {P : Program} {F : List Nat} {w0 w : World} {Γ Δ : List A} {t e : TypeId} {i : TypeInfo} {z v : Value} (ht : P.underlying t = some (.slice e)) (hi : P.info? e = some i) (hz : i.zero = some z) (hsize : i.size = 1) (hzs : z.cells.size = 1) (hby : decide (i.bytes ≤ 1000000) = true)
    {g : Option Nat} {n cap : Nat} {xs : List Value} (hT : T F w0 w Γ) (hk : Pick (rowP e 1 g n cap xs) Γ Δ) (hv : v.oneCell' = true) (hn : n ≤ 1000000) {K : Option Addr → Nat → Nat → World → Prop} (hK : ∀ g' cap' w', T F w0 w' (rowP e 1 g' (n + 1) cap' (xs ++ [v]) :: Δ) → K (ptr g') (n + 1) cap' w') :
    Alloc #[v] e w fun k w1 => ∃ (p : Option Addr) (l c : Nat), ∃ w2, (builtin .append #[t, t] t #[false, false] #[.slice (ptr g) n cap, .slice (some ⟨k, 0, none⟩) 1 1]).run P w1 = .ok (.value (.slice p l c)) w2 ∧ K p l c w2 := by
  refine Alloc.t hT fun k w1 hT1 => ?_
  have hby' : i.bytes ≤ 1000000 := of_decide_eq_true hby
  have hmul : (n + 1) * i.bytes ≤ 1000001 * 1000000 := Nat.mul_le_mul (by omega) hby'
  obtain ⟨g', cap', w', hr, hT'⟩ := append_t (ty := t) #[false, false] ht hi hz hsize hzs hT1 (.tail hk) (a := ⟨k, 0, none⟩) (m := 1) (c := 1) (news := [v]) rfl (fun j u hu => by
      rw [addr_add, Nat.zero_add]
      exact hT1.ld (by repeat (first | exact List.Mem.head _ | refine List.Mem.tail _ ?_)) (by simpa using hu)) (fun u hu => by obtain rfl := List.mem_singleton.1 hu; exact hv) (by simp only [maxLen]; omega) (by omega)
  exact ⟨_, _, _, w', hr, hK g' cap' w' (T.drop (hT'.swap (.swap _ _ _)))⟩
def partP (k : Nat) (pc : Option Addr) : Nat → Option Addr
  | 0 => some ⟨k, 2, none⟩
  | 1 => some ⟨k, 3, none⟩
  | 2 => some ⟨k, 4, none⟩
  | 3 => some ⟨k, 5, none⟩
  | 4 => pc
  | 5 => some ⟨k, 7, none⟩
  | 6 => some ⟨k, 8, none⟩
  | _ => some ⟨k, 9, none⟩
theorem partC_at (k : Nat) (pc : Option Addr) : ∀ (i : Nat), i < 8 → (partC k 0 pc)[i * 2]? = some (.pointer (partP k pc i)) ∧ (partC k 0 pc)[i * 2 + 1]? = some (.int .i64 (supW.getD (3 + i) 0 : Int))
  | 0, _ => ⟨rfl, rfl⟩
  | 1, _ => ⟨rfl, rfl⟩
  | 2, _ => ⟨rfl, rfl⟩
  | 3, _ => ⟨rfl, rfl⟩
  | 4, _ => ⟨rfl, rfl⟩
  | 5, _ => ⟨rfl, rfl⟩
  | 6, _ => ⟨rfl, rfl⟩
  | 7, _ => ⟨rfl, rfl⟩
theorem ints_take (ws : List Nat) (n x : Nat) (h : ws[n]? = some x) : ints (ws.take n) ++ [.int .i64 (x : Int)] = ints (ws.take (n + 1)) := by
  unfold ints
  rw [List.take_add_one, h]
  simp
theorem u64s_take (ws : List Nat) (n x : Nat) (h : ws[n]? = some x) : u64s (ws.take n) ++ [.int .u64 (x : Int)] = u64s (ws.take (n + 1)) := by
  unfold u64s
  rw [List.take_add_one, h]
  simp
theorem widths_spec {F : List Nat} {w0 w : World} {Γ : List A} (hT : T F w0 w Γ) :
    Calls Try.prog 64 #[] w fun e w' => ∃ g cap, e = .returned (.slice (ptr g) 11 cap) ∧ T F w0 w' (rowP 3 1 g 11 cap (ints supW) :: Γ) := by
  refine (super_widths_calls (R := fun v w' => ∃ g cap, v = .slice (ptr g) 11 cap ∧ T F w0 w' (rowP 3 1 g 11 cap (ints supW) :: Γ)) ?_).mono fun e w' ⟨v, he, g, cap, hv, h⟩ => ⟨g, cap, by rw [he, hv], h⟩
  unfold super_widths
  refine Alloc.t hT fun k4 w1 h1 => ?_
  have h1 : T F w0 w1 (rowP 3 1 (some k4) 3 3 (ints (supW.take 3)) :: Γ) := blk_row h1 rfl rfl (by decide)
  refine Alloc.t h1 fun k5 w2 h2 => (parts_spec k5 none h2).mono fun e w3 ⟨b, he, h3⟩ => ⟨_, _, _, he, ?_⟩
  refine ⟨fun vs w' => ∃ (i : Nat) (g : Option Nat) (cap : Nat), vs = [.slice (ptr g) (3 + i) cap, .int .i64 (i : Int)] ∧ i ≤ 8 ∧ T F w0 w' (rowP 3 1 g (3 + i) cap (ints (supW.take (3 + i))) :: blk b (partC k5 0 none) 99 :: Γ), fun vs _ => match vs with | [_, .int _ i] => (8 - i).toNat | _ => 0, ⟨0, some k4, 3, rfl, by omega, (h3.swap (Pick.perm (.tail (.tail .head)))).swap (.cons _ (.refl _)) |> fun h => T.dropAt h (.tail (.tail .head))⟩, ?_⟩
  rintro vs w4 ⟨i, g, cap, rfl, hi, h4⟩
  refine ⟨_, _, _, _, rfl, dec_t fun hlt => ?_, dec_f fun hge => ?_⟩
  · have hlt : i < 8 := by omega
    obtain ⟨p1, p2⟩ := partC_at k5 none i hlt
    refine ⟨_, rfl, by omega, by omega, partP k5 none i, ((supW.getD (3 + i) 0 : Nat) : Int), ⟨?_, ?_⟩, ?_⟩
    · rw [Int.toNat_natCast, addr_add, Nat.zero_add]; exact h4.ld (by repeat (first | exact List.Mem.head _ | refine List.Mem.tail _ ?_)) p1
    · rw [Int.toNat_natCast, addr_add, addr_add, Nat.zero_add]; exact h4.ld (by repeat (first | exact List.Mem.head _ | refine List.Mem.tail _ ?_)) p2
    refine Alloc.t h4 fun k3 w5 h5 => St.t h5 .head (by simp) (by rfl) rfl fun w6 h6 => St.t h6 .head (by simp) (by rfl) rfl fun w7 h7 => ?_
    refine ⟨_, h7.ld (by repeat (first | exact List.Mem.head _ | refine List.Mem.tail _ ?_)) rfl, ?_⟩
    have hw : supW[3 + i]? = some (supW.getD (3 + i) 0) := by
      have : 3 + i < supW.length := by show 3 + i < 11; omega
      simp [List.getD, this]
    refine push1_t (i := Try.t3) (z := .int .i64 0) (by kernel_rfl) (by kernel_rfl) (by kernel_rfl) (by kernel_rfl) (by kernel_rfl) (by kernel_rfl) h7 (.tail .head) rfl (by omega) fun g' cap' w8 h8 => ⟨⟨i + 1, g', cap', ?_, by omega, ?_⟩, ?_⟩
    · rw [wrap64 _ (by omega) (by omega)]; rfl
    · rw [ints_take supW _ _ hw] at h8
      exact T.dropAt h8 (.tail .head)
    · show ((8 : Int) - IntKind.i64.wrap ((i : Int) + 1)).toNat < ((8 : Int) - (i : Int)).toNat
      rw [wrap64 _ (by omega) (by omega)]; omega
  · have hie : i = 8 := by omega
    subst hie
    exact ⟨g, cap, rfl, T.dropAt h4 (.tail .head)⟩
end Go.Proofs.Ytdppllkjibfjcaa
end
section
/-! super: May, of any superblock. -/
namespace Go.Proofs.Ytdppllkjibfjcaa
open Go.Sh Go.RowKit
set_option linter.unusedVariables false
set_option maxRecDepth 20000
set_option maxHeartbeats 1000000
theorem nott {b : Bool} (h : (!b) = true) : b = false := by cases b; rfl; cases h
theorem notf {b : Bool} (h : (!b) = false) : b = true := by cases b; cases h; rfl
def MayF (a : SupV) : Prop := a.uuid ≠ 0 ∧ OkG a.cols a.chunk a.rows ∧ ((a.new = 0 ∧ a.grown = 0) ∨ (a.new ≠ 0 ∧ a.cols + 1 ≤ a.new ∧ a.new ≤ 10)) ∧ (a.role = 254 ∨ a.role = 255 ∨ (0 ≤ a.role ∧ a.role ≤ (if a.new > a.cols then a.new else a.cols) - 1)) ∧ (0 ≤ a.built ∧ a.built ≤ a.rows) ∧ (0 ≤ a.grown ∧ a.grown ≤ a.rows)
instance (a : SupV) : Decidable (MayF a) := by unfold MayF; infer_instance
theorem within_full (n lo hi : Int) (w : World) : Ret Try.prog 72 #[.int .i64 n, .int .i64 lo, .int .i64 hi] w (.bool (decide (lo ≤ n ∧ n ≤ hi))) := by
  refine ret_of (super_May_1_calls ?_)
  unfold super_May_1
  refine ⟨dec_t fun h => ⟨?_, Ext.refl w⟩, dec_f fun h => ⟨?_, Ext.refl w⟩⟩
  · congr 1; simp; omega
  · rw [decide_eq_false (by omega)]
theorem mayF_spec (a : SupV) (w : World) : Ret Try.prog 61 #[.agg (supC a)] w (.bool (decide (MayF a))) := by
  refine ret_of (super_May_calls ?_)
  unfold super_May
  refine Alloc.t (T.nil w) fun k1 w1 h1 => ?_
  have h1 : T [] w w1 [blk k1 (supC a) 58] := h1
  refine Join.intro fun J hJ => Join.intro fun J1 hJ1 => ?_
  have bad : ∀ w', T [] w w' [blk k1 (supC a) 58] → ¬ MayF a → RetR w (.bool (decide (MayF a))) (.bool false) w' := fun w' h hn => ⟨by rw [decide_eq_false hn], h.chg.ext⟩
  have j1 : ∀ b w', T [] w w' [blk k1 (supC a) 58] → (b = true → ¬ MayF a) → (b = false → a.uuid ≠ 0 ∧ OkG a.cols a.chunk a.rows) → J1 [.bool b] w' := by
    intro b w2 h2 hb1 hb2
    refine hJ1 _ _ ⟨b, rfl, fun e => bad _ h2 (hb1 e), fun e => ?_⟩
    obtain ⟨hu, hg⟩ := hb2 e
    have hg' := hg
    unfold OkG at hg'
    refine Join.intro fun J2 hJ2 => ?_
    have j2 : ∀ b w', T [] w w' [blk k1 (supC a) 58] → (b = true → ¬ MayF a) → (b = false → ((a.new = 0 ∧ a.grown = 0) ∨ (a.new ≠ 0 ∧ a.cols + 1 ≤ a.new ∧ a.new ≤ 10))) → J2 [.bool b] w' := by
      intro b w3 h3 hb1 hb2
      refine hJ2 _ _ ⟨b, rfl, fun e => bad _ h3 (hb1 e), fun e => ?_⟩
      have hnw := hb2 e
      have j : ∀ w', T [] w w' [blk k1 (supC a) 58] → (a.role = 254 ∨ a.role = 255 ∨ (0 ≤ a.role ∧ a.role ≤ (if a.new > a.cols then a.new else a.cols) - 1)) → J [] w' := by
        intro w4 h4 hro
        refine hJ _ _ ⟨rfl, _, h4.ld List.mem_cons_self rfl, _, h4.ld List.mem_cons_self rfl, (within_full a.built 0 a.rows w4).mono fun e w5 ⟨he, hx5⟩ => ⟨_, he, dec_t fun hbu => ?_, dec_f fun hbu => ?_⟩⟩
        · have h5 := h4.quiet hx5
          refine ⟨_, h5.ld List.mem_cons_self rfl, _, h5.ld List.mem_cons_self rfl, (within_full a.grown 0 a.rows w5).mono fun e w6 ⟨he, hx6⟩ => ⟨_, he, ?_, (h5.quiet hx6).chg.ext⟩⟩
          congr 1
          by_cases hgr : 0 ≤ a.grown ∧ a.grown ≤ a.rows
          · rw [decide_eq_true hgr, decide_eq_true (show MayF a from ⟨hu, hg, hnw, hro, hbu, hgr⟩)]
          · rw [decide_eq_false hgr, decide_eq_false (fun h : MayF a => hgr h.2.2.2.2.2)]
        · exact bad _ (h4.quiet hx5) fun h => hbu h.2.2.2.2.1
      refine ⟨_, h3.ld List.mem_cons_self rfl, bne_t fun r1 => ?_, bne_f fun r1 => j _ h3 (.inl r1)⟩
      refine ⟨_, h3.ld List.mem_cons_self rfl, bne_t fun r2 => ?_, bne_f fun r2 => j _ h3 (.inr (.inl r2))⟩
      refine ⟨_, h3.ld List.mem_cons_self rfl, _, h3.ld List.mem_cons_self rfl, _, h3.ld List.mem_cons_self rfl, _, w3, max_run _ _ _ _ _ _, ?_⟩
      have hmx : 4 ≤ (if a.new > a.cols then a.new else a.cols) ∧ (if a.new > a.cols then a.new else a.cols) ≤ 10 := by split <;> omega
      rw [wrap64 _ (by omega) (by omega)]
      refine (within_full a.role 0 _ w3).mono fun e w4 ⟨he, hx4⟩ => ⟨_, he, ?_, ?_⟩
      · intro hb
        have hb : decide (0 ≤ a.role ∧ a.role ≤ (if a.new > a.cols then a.new else a.cols) - 1) = false := nott hb
        refine bad _ (h3.quiet hx4) fun h => ?_
        have := of_decide_eq_false hb
        rcases h.2.2.2.1 with h | h | h
        · exact r1 h
        · exact r2 h
        · exact this h
      · intro hb
        have hb : decide (0 ≤ a.role ∧ a.role ≤ (if a.new > a.cols then a.new else a.cols) - 1) = true := notf hb
        exact j _ (h3.quiet hx4) (.inr (.inr (of_decide_eq_true hb)))
    have tail : ∀ w3, T [] w w3 [blk k1 (supC a) 58] → (a.new ≠ 0 → a.cols + 1 ≤ a.new ∧ a.new ≤ 10) → ∃ n31 : Int, w3.cell? ⟨k1, 8, none⟩ = some (.int .i64 n31) ∧ ((n31 == 0) = true → ∃ n35 : Int, w3.cell? ⟨k1, 9, none⟩ = some (.int .i64 n35) ∧ J2 [.bool (n35 != 0)] w3) ∧ ((n31 == 0) = false → J2 [.bool false] w3) := by
      intro w3 h3 hn
      refine ⟨a.new, h3.ld List.mem_cons_self rfl, beq_t fun z => ⟨a.grown, h3.ld List.mem_cons_self rfl, j2 _ _ h3 (fun e h => ?_) (fun e => .inl ⟨z, by simpa using e⟩)⟩, beq_f fun z => j2 _ _ h3 (fun e => by cases e) fun _ => .inr ⟨z, hn z⟩⟩
      have e : a.grown ≠ 0 := by simpa using e
      rcases h.2.2.1 with ⟨_, h'⟩ | ⟨h', _⟩
      · exact e h'
      · exact h' z
    refine ⟨_, h2.ld List.mem_cons_self rfl, bne_t fun hn0 => ?_, bne_f fun hn0 => tail _ h2 (fun h => absurd hn0 h)⟩
    refine ⟨_, h2.ld List.mem_cons_self rfl, _, h2.ld List.mem_cons_self rfl, ?_⟩
    rw [wrap64 _ (by omega) (by omega)]
    refine (within_full a.new (a.cols + 1) 10 w2).mono fun e w3 ⟨he, hx3⟩ => ⟨_, he, ?_, ?_⟩
    · intro hb
      have hb : decide (a.cols + 1 ≤ a.new ∧ a.new ≤ 10) = false := nott hb
      refine j2 _ _ (h2.quiet hx3) (fun _ h => ?_) fun e => by cases e
      have := of_decide_eq_false hb
      rcases h.2.2.1 with ⟨h', _⟩ | ⟨_, h'⟩
      · exact hn0 h'
      · exact this h'
    · intro hb
      have hb : decide (a.cols + 1 ≤ a.new ∧ a.new ≤ 10) = true := notf hb
      exact tail _ (h2.quiet hx3) fun _ => of_decide_eq_true hb
  refine rd10 h1 List.mem_cons_self ⟨_, w1, eql_sup a sup0 _ _ w1, fun e => ?_, fun e => ?_⟩
  · have e : a = sup0 := of_decide_eq_true e
    exact j1 true _ h1 (fun _ h => h.1 (by rw [e])) fun e => by cases e
  · refine ⟨_, h1.ld List.mem_cons_self rfl, beq_t fun z => j1 true _ h1 (fun _ h => h.1 z) (fun e => by cases e), beq_f fun z => ?_⟩
    refine ⟨_, _, _, ⟨h1.ld List.mem_cons_self rfl, h1.ld List.mem_cons_self rfl, h1.ld List.mem_cons_self rfl⟩, ?_⟩
    refine (check_spec a.cols a.chunk a.rows w1).mono fun e w2 ⟨he, hx2⟩ => ⟨_, he, ?_⟩
    by_cases hg : OkG a.cols a.chunk a.rows
    · rw [if_pos hg]
      exact j1 false _ (h1.quiet hx2) (fun e => by cases e) fun _ => ⟨z, hg⟩
    · rw [if_neg hg]
      exact j1 true _ (h1.quiet hx2) (fun _ h => hg h.2.1) fun e => by cases e
end Go.Proofs.Ytdppllkjibfjcaa
end
section
/-! super: Encode. -/
namespace Go.Proofs.Ytdppllkjibfjcaa
open Go.Sh Go.RowKit
set_option linter.unusedVariables false
set_option maxRecDepth 20000
set_option maxHeartbeats 1000000
/-- the ranges of what is packed -/
structure RngS (a : SupV) : Prop where
  uuid : 0 ≤ a.uuid ∧ a.uuid < 18446744073709551616
  events : 0 ≤ a.events ∧ a.events < 18446744073709551616
  role : 0 ≤ a.role ∧ a.role < 256
  cols : 0 ≤ a.cols ∧ a.cols < 256
  chunk : 0 ≤ a.chunk ∧ a.chunk < 256
  rows : 0 ≤ a.rows ∧ a.rows < 65536
  built : 0 ≤ a.built ∧ a.built < 65536
  new : 0 ≤ a.new ∧ a.new < 256
  grown : 0 ≤ a.grown ∧ a.grown < 65536
/-- the two numbers without a sign -/
def U64S (a : SupV) : Prop := (0 ≤ a.uuid ∧ a.uuid < 18446744073709551616) ∧ (0 ≤ a.events ∧ a.events < 18446744073709551616)
theorem MayF.rng {a : SupV} (h : MayF a) (hu : U64S a) : RngS a := by
  obtain ⟨h1, h2, h3, h4, h5, h6⟩ := h
  unfold OkG at h2
  have hm : (if a.new > a.cols then a.new else a.cols) ≤ 10 := by split <;> omega
  refine ⟨hu.1, hu.2, ?_, by omega, by omega, by omega, by omega, ?_, by omega⟩
  · rcases h4 with h | h | h <;> omega
  · rcases h3 with h | h <;> omega
theorem MayS.f {a : SupV} (h : MayS a) : MayF a := by
  have := h.uuid; have := h.cols; have := h.chunk; have := h.rows; have := h.role; have := h.built; have := h.new; have := h.grown
  refine ⟨by omega, by unfold OkG; omega, .inl ⟨h.new, h.grown⟩, .inr (.inr ?_), h.built, by omega⟩
  rw [if_neg (by omega)]; omega
theorem MayS.u64 {a : SupV} (h : MayS a) : U64S a := ⟨by have := h.uuid; omega, h.events⟩
def fieldsS (a : SupV) : List Nat := [827610706, a.uuid.toNat, a.events.toNat, a.role.toNat, a.cols.toNat, a.chunk.toNat, a.rows.toNat, if a.clean then 1 else 0, a.built.toNat, a.new.toNat, a.grown.toNat]
def packS (a : SupV) : List UInt8 := encP (fieldsS a) supW
def encS (a : SupV) : List UInt8 := sealB (packS a) 64
def fitsL : List Nat → List Nat → Prop
  | n :: ns, w :: ws => n < 256 ^ w ∧ fitsL ns ws
  | _, _ => True
theorem fitsL_get : ∀ {ns ws : List Nat}, fitsL ns ws → ∀ (i n x : Nat), ns[i]? = some n → ws[i]? = some x → n < 256 ^ x
  | [], _, _, i, _, _, h, _ => by simp at h
  | _ :: _, [], _, i, _, _, _, h => by simp at h
  | n :: ns, w :: ws, h, 0, _, _, hn, hx => by
    simp only [List.getElem?_cons_zero, Option.some.injEq] at hn hx
    subst hn; subst hx; exact h.1
  | n :: ns, w :: ws, h, i + 1, m, x, hn, hx => fitsL_get h.2 i m x (by simpa using hn) (by simpa using hx)
theorem fitsL_zip : ∀ {ns ws : List Nat}, fitsL ns ws → ∀ p ∈ ns.zip ws, p.1 < 256 ^ p.2
  | [], _, _, p, h => by simp at h
  | _ :: _, [], _, p, h => by simp at h
  | n :: ns, w :: ws, h, p, hp => by
    simp only [List.zip_cons_cons, List.mem_cons] at hp
    rcases hp with rfl | hp
    · exact h.1
    · exact fitsL_zip h.2 p hp
theorem fieldsS_fit {a : SupV} (h : RngS a) : fitsL (fieldsS a) supW := by
  obtain ⟨h1, h2, h3, h4, h5, h6, h7, h8, h9⟩ := h
  have e1 : (256 : Nat) ^ 1 = 256 := rfl
  have e2 : (256 : Nat) ^ 2 = 65536 := rfl
  have e4 : (256 : Nat) ^ 4 = 4294967296 := rfl
  have e8 : (256 : Nat) ^ 8 = 18446744073709551616 := rfl
  simp only [fitsL, fieldsS, supW, e1, e2, e4, e8]
  refine ⟨by omega, by omega, by omega, by omega, by omega, by omega, by omega, ?_, by omega, by omega, by omega, trivial⟩
  split <;> omega
theorem fieldsS_len (a : SupV) : (fieldsS a).length = supW.length := rfl
theorem packS_len (a : SupV) : (packS a).length = 31 := encP_len (fieldsS a) supW rfl
theorem encS_len (a : SupV) : (encS a).length = 64 := sealB_len (by rw [packS_len]; omega)
theorem encS_size (a : SupV) : (strB (encS a)).size = 64 := by rw [strB_size, encS_len]
theorem partV {a : SupV} (h : RngS a) {F : List Nat} {w0 w : World} {Γ : List A} {k1 k4 : Nat} {t1 t4 : TypeId} (hT : T F w0 w Γ) (m1 : blk k1 (supC a) t1 ∈ Γ) (m4 : blk k4 #[.int .i64 (if a.clean then 1 else 0)] t4 ∈ Γ) :
    ∀ (i : Nat), i < 8 → ∃ p, partP k1 (some ⟨k4, 0, none⟩) i = some p ∧ w.cell? p = some (.int .i64 (((fieldsS a).getD (3 + i) 0 : Nat) : Int)) := by
  obtain ⟨h1, h2, h3, h4, h5, h6, h7, h8, h9⟩ := h
  have cv : ∀ {x : Int}, 0 ≤ x → ((x.toNat : Nat) : Int) = x := fun h => by omega
  intro i hi
  match i, hi with
  | 0, _ => exact ⟨_, rfl, by show _ = some (Value.int .i64 ((a.role.toNat : Nat) : Int)); rw [cv (by omega)]; exact hT.ld m1 rfl⟩
  | 1, _ => exact ⟨_, rfl, by show _ = some (Value.int .i64 ((a.cols.toNat : Nat) : Int)); rw [cv (by omega)]; exact hT.ld m1 rfl⟩
  | 2, _ => exact ⟨_, rfl, by show _ = some (Value.int .i64 ((a.chunk.toNat : Nat) : Int)); rw [cv (by omega)]; exact hT.ld m1 rfl⟩
  | 3, _ => exact ⟨_, rfl, by show _ = some (Value.int .i64 ((a.rows.toNat : Nat) : Int)); rw [cv (by omega)]; exact hT.ld m1 rfl⟩
  | 4, _ => exact ⟨_, rfl, by
      have : (((if a.clean then 1 else 0 : Nat) : Nat) : Int) = if a.clean then 1 else 0 := by split <;> rfl
      show _ = some (Value.int .i64 (((if a.clean then 1 else 0 : Nat) : Nat) : Int))
      rw [this]; exact hT.ld m4 rfl⟩
  | 5, _ => exact ⟨_, rfl, by show _ = some (Value.int .i64 ((a.built.toNat : Nat) : Int)); rw [cv (by omega)]; exact hT.ld m1 rfl⟩
  | 6, _ => exact ⟨_, rfl, by show _ = some (Value.int .i64 ((a.new.toNat : Nat) : Int)); rw [cv (by omega)]; exact hT.ld m1 rfl⟩
  | 7, _ => exact ⟨_, rfl, by show _ = some (Value.int .i64 ((a.grown.toNat : Nat) : Int)); rw [cv (by omega)]; exact hT.ld m1 rfl⟩
theorem fieldsS_at (a : SupV) {i : Nat} (hi : i < 8) : (fieldsS a)[3 + i]? = some ((fieldsS a).getD (3 + i) 0) := by
  have : 3 + i < (fieldsS a).length := by show 3 + i < 11; omega
  simp [List.getD, this]
theorem fieldsS_small {a : SupV} (h : RngS a) (i : Nat) (hi : i < 8) : ((fieldsS a).getD (3 + i) 0) < 65536 := by
  obtain ⟨h1, h2, h3, h4, h5, h6, h7, h8, h9⟩ := h
  match i, hi with
  | 0, _ => show a.role.toNat < 65536; omega
  | 1, _ => show a.cols.toNat < 65536; omega
  | 2, _ => show a.chunk.toNat < 65536; omega
  | 3, _ => show a.rows.toNat < 65536; omega
  | 4, _ => show (if a.clean then 1 else 0) < 65536; split <;> omega
  | 5, _ => show a.built.toNat < 65536; omega
  | 6, _ => show a.new.toNat < 65536; omega
  | 7, _ => show a.grown.toNat < 65536; omega
/-- Encode, of any superblock -/
def encF (a : SupV) : List UInt8 × Int := if MayF a then (encS a, 0) else ([], 1)
theorem sencodeF_spec {a : SupV} (hu64 : U64S a) (w : World) : Ret Try.prog 36 #[.agg (supC a)] w (.tuple #[.string (strB (encF a).1), .int .i64 (encF a).2]) := by
  refine ret_of (super_Encode_calls ?_)
  unfold super_Encode
  refine Alloc.t (T.nil w) fun k1 w1 h1 => ?_
  have h1 : T [] w w1 [blk k1 (supC a) 58] := h1
  refine rd10 h1 List.mem_cons_self ?_
  refine (mayF_spec a w1).mono fun e w2 ⟨he, hx2⟩ => ⟨_, he, fun e => ?_, fun e => ?_⟩
  · have hn : ¬ MayF a := of_decide_eq_false (nott e)
    unfold encF
    rw [if_neg hn]
    exact ⟨rfl, (h1.quiet hx2).chg.ext⟩
  have hm : MayF a := of_decide_eq_true (notf e)
  have h := hm.rng hu64
  unfold encF
  rw [if_pos hm]
  have h2 := h1.quiet hx2
  refine Alloc.t h2 fun k4 w3 h3 => St.t (c' := #[.int .i64 0]) h3 .head (show 0 < 1 by decide) rfl rfl fun w4 h4 => Join.intro fun J hJ => ?_
  have main : ∀ w5, T [] w w5 [blk k4 #[.int .i64 (if a.clean then 1 else 0)] 3, blk k1 (supC a) 58] → J [] w5 := by
    intro w5 h5
    have hu : (((a.uuid.toNat : Nat) : Int)) = a.uuid := by have := h.uuid; omega
    have hv : (((a.events.toNat : Nat) : Int)) = a.events := by have := h.events; omega
    refine hJ _ _ ⟨rfl, a.uuid, h5.ld (by repeat (first | exact List.Mem.head _ | refine List.Mem.tail _ ?_)) rfl, a.events, h5.ld (by repeat (first | exact List.Mem.head _ | refine List.Mem.tail _ ?_)) rfl, Alloc.t h5 fun k21 w6 h6 => ?_⟩
    have h6 : T [] w w6 (rowP 53 1 (some k21) 3 3 (u64s ((fieldsS a).take 3)) :: [blk k4 #[.int .i64 (if a.clean then 1 else 0)] 3, blk k1 (supC a) 58]) := by
      refine blk_row h6 ?_ rfl (by decide)
      show [Value.int .u64 827610706, .int .u64 a.uuid, .int .u64 a.events] = [.int .u64 ((827610706 : Nat) : Int), .int .u64 ((a.uuid.toNat : Nat) : Int), .int .u64 ((a.events.toNat : Nat) : Int)]
      rw [hu, hv]; rfl
    refine (parts_spec k1 (some ⟨k4, 0, none⟩) h6).mono fun e w7 ⟨b, he, h7⟩ => ⟨_, _, _, he, ?_⟩
    refine ⟨fun vs w' => ∃ (i : Nat) (g : Option Nat) (cap : Nat), vs = [.slice (ptr g) (3 + i) cap, .int .i64 (i : Int)] ∧ i ≤ 8 ∧ T [] w w' (rowP 53 1 g (3 + i) cap (u64s ((fieldsS a).take (3 + i))) :: blk b (partC k1 0 (some ⟨k4, 0, none⟩)) 99 :: [blk k4 #[.int .i64 (if a.clean then 1 else 0)] 3, blk k1 (supC a) 58]), fun vs _ => match vs with | [_, .int _ i] => (8 - i).toNat | _ => 0, ⟨0, some k21, 3, rfl, by omega, h7.swap (Pick.perm (.tail .head))⟩, ?_⟩
    rintro vs w8 ⟨i, g, cap, rfl, hi, h8⟩
    refine ⟨_, _, _, _, rfl, dec_t fun hlt => ?_, dec_f fun hge => ?_⟩
    · have hlt : i < 8 := by omega
      obtain ⟨p1, p2⟩ := partC_at k1 (some ⟨k4, 0, none⟩) i hlt
      refine ⟨_, rfl, by omega, by omega, partP k1 (some ⟨k4, 0, none⟩) i, ((supW.getD (3 + i) 0 : Nat) : Int), ⟨?_, ?_⟩, ?_⟩
      · rw [Int.toNat_natCast, addr_add, Nat.zero_add]; exact h8.ld (by repeat (first | exact List.Mem.head _ | refine List.Mem.tail _ ?_)) p1
      · rw [Int.toNat_natCast, addr_add, addr_add, Nat.zero_add]; exact h8.ld (by repeat (first | exact List.Mem.head _ | refine List.Mem.tail _ ?_)) p2
      refine Alloc.t h8 fun k7 w9 h9 => St.t h9 .head (by simp) (by rfl) rfl fun w10 h10 => St.t h10 .head (by simp) (by rfl) rfl fun w11 h11 => ?_
      obtain ⟨p, hp, hc⟩ := partV h (i := i) h11 (k1 := k1) (k4 := k4) (t1 := 58) (t4 := 3) (by repeat (first | exact List.Mem.head _ | refine List.Mem.tail _ ?_)) (by repeat (first | exact List.Mem.head _ | refine List.Mem.tail _ ?_)) hlt
      refine ⟨_, h11.ld (by repeat (first | exact List.Mem.head _ | refine List.Mem.tail _ ?_)) rfl, _, hp, _, hc, ?_⟩
      have hsm := fieldsS_small h i hlt
      have e64 : IntKind.u64.wrap (((fieldsS a).getD (3 + i) 0 : Nat) : Int) = (((fieldsS a).getD (3 + i) 0 : Nat) : Int) := by rw [wrapU64]; omega
      rw [e64]
      refine push1_t (i := Try.t53) (z := .int .u64 0) (by kernel_rfl) (by kernel_rfl) (by kernel_rfl) (by kernel_rfl) (by kernel_rfl) (by kernel_rfl) h11 (.tail .head) rfl (by omega) fun g' cap' w12 h12 => ⟨⟨i + 1, g', cap', ?_, by omega, ?_⟩, ?_⟩
      · rw [wrap64 _ (by omega) (by omega)]; rfl
      · rw [u64s_take _ _ _ (fieldsS_at a hlt)] at h12
        exact T.dropAt h12 (.tail .head)
      · show ((8 : Int) - IntKind.i64.wrap ((i : Int) + 1)).toNat < ((8 : Int) - (i : Int)).toNat
        rw [wrap64 _ (by omega) (by omega)]; omega
    · have hie : i = 8 := by omega
      subst hie
      refine (widths_spec h8).mono fun e w9 ⟨g2, c2, he, h9⟩ => ⟨_, _, _, he, ?_⟩
      have h9' : T [] w w9 (rowP 3 1 g2 11 c2 (ints supW) :: rowP 53 1 g 11 cap (u64s (fieldsS a)) :: blk b (partC k1 0 (some ⟨k4, 0, none⟩)) 99 :: [blk k4 #[.int .i64 (if a.clean then 1 else 0)] 3, blk k1 (supC a) 58]) := h9
      refine (encode_spec supW_wid (fieldsS_len a) (fitsL_get (fieldsS_fit h)) h9' (g1 := g) (g2 := g2) (n1 := 11) (n2 := 11) (c1 := cap) (c2 := c2) rfl rfl (by repeat (first | exact List.Mem.head _ | refine List.Mem.tail _ ?_)) (by repeat (first | exact List.Mem.head _ | refine List.Mem.tail _ ?_))).mono fun e w10 ⟨he, h10⟩ => ⟨_, _, he, ?_⟩
      refine (seal_spec (strB (packS a)) 64 (by rw [strB_size, packS_len]; omega) (by omega) w10).mono fun e w11 ⟨he, hx⟩ => ⟨_, _, he, fun e => (by cases e), fun _ => ⟨rfl, (h10.quiet hx).chg.ext⟩⟩
  refine ⟨a.clean, h4.ld (by repeat (first | exact List.Mem.head _ | refine List.Mem.tail _ ?_)) rfl, fun hc => ?_, fun hc => ?_⟩
  · refine St.t (c' := #[.int .i64 1]) h4 .head (show 0 < 1 by decide) rfl rfl fun w5 h5 => main w5 ?_
    rw [hc]; exact h5
  · refine main w4 ?_
    rw [hc]; exact h4
theorem encF_may {a : SupV} (h : MayF a) : encF a = (encS a, 0) := if_pos h
theorem sencode_spec {a : SupV} (h : MayS a) (w : World) : Ret Try.prog 36 #[.agg (supC a)] w (.tuple #[.string (strB (encS a)), .int .i64 0]) := by
  have := sencodeF_spec h.u64 w
  rw [encF_may h.f] at this
  exact this
end Go.Proofs.Ytdppllkjibfjcaa
end
section
/-! super: Decode. -/
namespace Go.Proofs.Ytdppllkjibfjcaa
open Go.Sh Go.RowKit
set_option linter.unusedVariables false
set_option maxRecDepth 20000
set_option maxHeartbeats 1000000
/-- the superblock that numbers tell -/
def supL (l : List Nat) : SupV := ⟨(l.getD 1 0 : Nat), (l.getD 2 0 : Nat), (l.getD 3 0 : Nat), (l.getD 4 0 : Nat), (l.getD 5 0 : Nat), (l.getD 6 0 : Nat), l.getD 7 0 == 1, (l.getD 8 0 : Nat), (l.getD 9 0 : Nat), (l.getD 10 0 : Nat)⟩
/-- Decode -/
def decF (b : List UInt8) : SupV × Int :=
  if b.length = 64 then
    if (openB b).2 = true then
      if (decP (b.take 31) supW).getD 0 0 = 827610706 then
        if encF (supL (decP (b.take 31) supW)) = (b, 0) then (supL (decP (b.take 31) supW), 0) else (sup0, 1)
      else (sup0, 81)
    else (sup0, 80)
  else (sup0, 31)
def supI (l : List Nat) (i : Nat) : SupV := ⟨(l.getD 1 0 : Nat), (l.getD 2 0 : Nat), if 0 < i then (l.getD 3 0 : Nat) else 0, if 1 < i then (l.getD 4 0 : Nat) else 0, if 2 < i then (l.getD 5 0 : Nat) else 0, if 3 < i then (l.getD 6 0 : Nat) else 0, false, if 5 < i then (l.getD 8 0 : Nat) else 0, if 6 < i then (l.getD 9 0 : Nat) else 0, if 7 < i then (l.getD 10 0 : Nat) else 0⟩
def clI (l : List Nat) (i : Nat) : Int := if 4 < i then (l.getD 7 0 : Nat) else 0
theorem decP_fits : ∀ (ws : List Nat) (s : List UInt8), fitsL (decP s ws) ws
  | [], s => trivial
  | w :: ws, s => ⟨Nat.lt_of_lt_of_le (leN_lt (s.take w)) (Nat.pow_le_pow_right (by decide) (List.length_take_le ..)), decP_fits ws _⟩
theorem list11 {l : List Nat} (h : l.length = 11) : l = [l.getD 0 0, l.getD 1 0, l.getD 2 0, l.getD 3 0, l.getD 4 0, l.getD 5 0, l.getD 6 0, l.getD 7 0, l.getD 8 0, l.getD 9 0, l.getD 10 0] := by
  match l, h with
  | [_, _, _, _, _, _, _, _, _, _, _], _ => rfl
theorem fits11 {l : List Nat} (hl : l.length = 11) (hf : fitsL l supW) : l.getD 1 0 < 18446744073709551616 ∧ l.getD 2 0 < 18446744073709551616 ∧ (∀ i, 3 ≤ i → l.getD i 0 < 65536) := by
  rw [list11 hl] at hf
  obtain ⟨h0, h1, h2, h3, h4, h5, h6, h7, h8, h9, h10, _⟩ := hf
  have e1 : (256 : Nat) ^ 1 = 256 := rfl
  have e2 : (256 : Nat) ^ 2 = 65536 := rfl
  have e8 : (256 : Nat) ^ 8 = 18446744073709551616 := rfl
  rw [e1] at h3 h4 h5 h7 h9
  rw [e2] at h6 h8 h10
  rw [e8] at h1 h2
  refine ⟨h1, h2, fun i hi => ?_⟩
  match i, hi with
  | 3, _ => omega
  | 4, _ => omega
  | 5, _ => omega
  | 6, _ => omega
  | 7, _ => omega
  | 8, _ => omega
  | 9, _ => omega
  | 10, _ => omega
  | i + 11, _ => rw [show l.getD (i + 11) 0 = 0 by simp [List.getD, List.getElem?_eq_none (show l.length ≤ i + 11 by omega)]]; omega
theorem supL_u64 {l : List Nat} (hl : l.length = 11) (hf : fitsL l supW) : U64S (supL l) := by
  obtain ⟨h1, h2, _⟩ := fits11 hl hf
  exact ⟨⟨Int.natCast_nonneg _, by show ((l.getD 1 0 : Nat) : Int) < _; omega⟩, ⟨Int.natCast_nonneg _, by show ((l.getD 2 0 : Nat) : Int) < _; omega⟩⟩
theorem stV {l : List Nat} {F : List Nat} {w0 w : World} {Δ : List A} {k1 k4 : Nat} {t1 t4 : TypeId} {K : World → Prop} : ∀ (i : Nat), i < 8 → T F w0 w (blk k4 #[.int .i64 (clI l i)] t4 :: blk k1 (supC (supI l i)) t1 :: Δ) →
    (∀ w', T F w0 w' (blk k4 #[.int .i64 (clI l (i + 1))] t4 :: blk k1 (supC (supI l (i + 1))) t1 :: Δ) → K w') → ∃ p, partP k1 (some ⟨k4, 0, none⟩) i = some p ∧ St p (.int .i64 ((l.getD (3 + i) 0 : Nat) : Int)) w K := by
  intro i hi hT hK
  match i, hi with
  | 0, _ => exact ⟨_, rfl, St.t (c' := supC (supI l 1)) hT (.tail .head) (show 2 < 10 by decide) rfl rfl hK⟩
  | 1, _ => exact ⟨_, rfl, St.t (c' := supC (supI l 2)) hT (.tail .head) (show 3 < 10 by decide) rfl rfl hK⟩
  | 2, _ => exact ⟨_, rfl, St.t (c' := supC (supI l 3)) hT (.tail .head) (show 4 < 10 by decide) rfl rfl hK⟩
  | 3, _ => exact ⟨_, rfl, St.t (c' := supC (supI l 4)) hT (.tail .head) (show 5 < 10 by decide) rfl rfl hK⟩
  | 4, _ => exact ⟨_, rfl, St.t (c' := #[.int .i64 (clI l 5)]) hT .head (show 0 < 1 by decide) rfl rfl hK⟩
  | 5, _ => exact ⟨_, rfl, St.t (c' := supC (supI l 6)) hT (.tail .head) (show 7 < 10 by decide) rfl rfl hK⟩
  | 6, _ => exact ⟨_, rfl, St.t (c' := supC (supI l 7)) hT (.tail .head) (show 8 < 10 by decide) rfl rfl hK⟩
  | 7, _ => exact ⟨_, rfl, St.t (c' := supC (supI l 8)) hT (.tail .head) (show 9 < 10 by decide) rfl rfl hK⟩
theorem open_take {b : List UInt8} (hl : b.length = 64) (ho : (openB b).2 = true) : (openB b).1 = b.take 60 := by
  unfold openB at ho ⊢
  rw [hl] at ho ⊢
  rw [if_neg (by omega)] at ho ⊢
  split at ho
  · rename_i hq
    rw [if_pos hq]
  · cases ho
theorem decodeF_spec (s : ByteArray) (w : World) : Ret Try.prog 66 #[.string s] w (.tuple #[.agg (supC (decF s.data.toList).1), .int .i64 (decF s.data.toList).2]) := by
  refine ret_of (super_Decode_calls ?_)
  unfold super_Decode
  have hl : s.data.toList.length = s.size := Array.length_toList
  refine Alloc.t (T.nil w) fun k2 w1 h1 => ?_
  have h1 : T [] w w1 [blk k2 (supC sup0) 58] := h1
  by_cases h64 : s.size = 64
  case neg =>
    unfold decF
    rw [if_neg (by rw [hl]; exact h64)]
    refine yes (by simp; omega) ?_
    exact st10 (a := sup0) (b := sup0) h1 fun w15 h15 => rd10 h15 (k := k2) (t := 58) (by repeat (first | exact List.Mem.head _ | refine List.Mem.tail _ ?_)) ⟨rfl, h15.chg.ext⟩
  unfold decF
  rw [h64] at hl
  rw [if_pos hl]
  refine no (by rw [h64]; rfl) ?_
  refine (open_spec s (by omega) w1).mono fun e w2 ⟨he, hx2⟩ => ⟨_, _, he, ?_⟩
  have h2 := h1.quiet hx2
  cases ho : (openB s.data.toList).2 with
  | false =>
    rw [if_neg (by decide)]
    refine yes rfl ?_
    exact st10 (a := sup0) (b := sup0) h2 fun w15 h15 => rd10 h15 (k := k2) (t := 58) (by repeat (first | exact List.Mem.head _ | refine List.Mem.tail _ ?_)) ⟨rfl, h15.chg.ext⟩
  | true =>
  rw [if_pos rfl]
  refine no rfl ?_
  rw [open_take hl ho]
  refine (widths_spec h2).mono fun e w3 ⟨g, c, he, h3⟩ => ⟨_, _, _, he, ?_⟩
  refine (size_spec supW_wid (T.readsW h3 List.mem_cons_self)).mono fun e w4 ⟨he, hx4⟩ => ⟨_, _, he, ?_⟩
  have h4 := h3.quiet hx4
  have hp60 : (strB (s.data.toList.take 60)).size = 60 := by rw [strB_size, List.length_take]; omega
  have hsl : ∀ w', (Instr.sliceAt 9 (.string (strB (s.data.toList.take 60))) none (some (.int .i64 31)) none).run Try.prog w' = .ok (.string (strB (s.data.toList.take 31))) w' := fun w' => by
    rw [slice_to (by kernel_rfl) (by omega) (by rw [hp60]; omega)]
    rw [show (31 : Int).toNat = 31 from rfl, strB_extract, List.drop_zero, Nat.sub_zero, List.take_take]
    rfl
  refine ⟨_, w4, hsl w4, ?_⟩
  refine (decode_spec supW_wid (s := strB (s.data.toList.take 31)) (by rw [strB_size, List.length_take, hl]; rfl) h4 (g2 := g) (n2 := 11) (c2 := c) rfl List.mem_cons_self).mono fun e w5 ⟨b, he, h5⟩ => ⟨_, _, _, _, he, no rfl ?_⟩
  have hll : (decP (s.data.toList.take 31) supW).length = 11 := decP_len _ supW
  have hlf : fitsL (decP (s.data.toList.take 31) supW) supW := decP_fits _ _
  have h5 : T [] w w5 (rowP 53 1 (some b) 11 11 (u64s (decP (s.data.toList.take 31) supW)) :: rowP 3 1 g 11 c (ints supW) :: [blk k2 (supC sup0) 58]) := h5
  generalize decP (s.data.toList.take 31) supW = l at hll hlf h5
  have rdF : ∀ {w' : World} {Γ' : List A} {i : Nat}, i < 11 → T [] w w' Γ' → rowP 53 1 (some b) 11 11 (u64s l) ∈ Γ' → w'.cell? ⟨b, i, none⟩ = some (.int .u64 ((l.getD i 0 : Nat) : Int)) := fun {w' Γ' i} hi hT hm => rowP.cell (hT.says hm) (u64s_get (by simp [List.getD, hll, hi]))
  obtain ⟨hb1, hb2, hb3⟩ := fits11 hll hlf
  by_cases hmg : l.getD 0 0 = 827610706
  case neg =>
    rw [if_neg hmg]
    refine ⟨_, rfl, by omega, by show (0 : Int) < 11; omega, _, rdF (by omega) h5 (by repeat (first | exact List.Mem.head _ | refine List.Mem.tail _ ?_)) (i := 0), yes (by simp only [bne_iff_ne, ne_eq]; omega) ?_⟩
    have h6 : T [] w w5 (blk k2 (supC sup0) 58 :: _) := h5.swap (Pick.perm (.tail (.tail .head)))
    exact st10 (a := sup0) (b := sup0) h6 fun w15 h15 => rd10 h15 (k := k2) (t := 58) (by repeat (first | exact List.Mem.head _ | refine List.Mem.tail _ ?_)) ⟨rfl, h15.chg.ext⟩
  rw [if_pos hmg]
  refine ⟨_, rfl, by omega, by show (0 : Int) < 11; omega, _, rdF (by omega) h5 (by repeat (first | exact List.Mem.head _ | refine List.Mem.tail _ ?_)) (i := 0), no (by rw [hmg]; rfl) ?_⟩
  refine ⟨fun w' => T [] w w' (rowP 53 1 (some b) 11 11 (u64s l) :: rowP 3 1 g 11 c (ints supW) :: [blk k2 (supC sup0) 58]) ∨ ∃ k, T [] w w' (blk k (supC sup0) 58 :: rowP 53 1 (some b) 11 11 (u64s l) :: rowP 3 1 g 11 c (ints supW) :: [blk k2 (supC sup0) 58]), .inl h5.drew, _, rfl, by omega, by show (1 : Int) < 11; omega, ((l.getD 1 0 : Nat) : Int), ?_, _, rfl, by omega, by show (2 : Int) < 11; omega, ((l.getD 2 0 : Nat) : Int), ?_, ?_⟩
  · rintro w' (hd | ⟨k, hd⟩)
    · rw [addr_add]; exact rdF (i := 1) (by omega) hd (by repeat (first | exact List.Mem.head _ | refine List.Mem.tail _ ?_))
    · rw [addr_add]; exact rdF (i := 1) (by omega) hd (by repeat (first | exact List.Mem.head _ | refine List.Mem.tail _ ?_))
  · rintro w' (hd | ⟨k, hd⟩)
    · rw [addr_add]; exact rdF (i := 2) (by omega) hd (by repeat (first | exact List.Mem.head _ | refine List.Mem.tail _ ?_))
    · rw [addr_add]; exact rdF (i := 2) (by omega) hd (by repeat (first | exact List.Mem.head _ | refine List.Mem.tail _ ?_))
  refine Alloc.t h5.drew fun k11 w6 h6 => ⟨.inr ⟨k11, h6⟩, ?_⟩
  refine st10 (a := sup0) (b := supI l 0) h6 fun w7 h7 => Alloc.t h7 fun k12 w8 h8 => St.t (c' := #[.int .i64 0]) h8 .head (show 0 < 1 by decide) rfl rfl fun w9 h9 => ?_
  refine (parts_spec k11 (some ⟨k12, 0, none⟩) h9).mono fun e w10 ⟨b2, he, h10⟩ => ⟨_, _, _, he, ?_⟩
  refine ⟨fun vs w' => ∃ i : Nat, vs = [.int .i64 (i : Int)] ∧ i ≤ 8 ∧ T [] w w' (blk k12 #[.int .i64 (clI l i)] 3 :: blk k11 (supC (supI l i)) 58 :: blk b2 (partC k11 0 (some ⟨k12, 0, none⟩)) 99 :: rowP 53 1 (some b) 11 11 (u64s l) :: rowP 3 1 g 11 c (ints supW) :: [blk k2 (supC sup0) 58]), fun vs _ => match vs with | [.int _ i] => (8 - i).toNat | _ => 0, ⟨0, rfl, by omega, h10.swap (Pick.perm (.tail (.tail .head))).symm⟩, ?_⟩
  rintro vs w11 ⟨i, rfl, hi, h11⟩
  refine ⟨_, rfl, dec_t fun hlt => ?_, dec_f fun hge => ?_⟩
  · have hlt : i < 8 := by omega
    obtain ⟨p1, p2⟩ := partC_at k11 (some ⟨k12, 0, none⟩) i hlt
    refine ⟨_, rfl, by omega, by omega, partP k11 (some ⟨k12, 0, none⟩) i, ((supW.getD (3 + i) 0 : Nat) : Int), ⟨?_, ?_⟩, ?_⟩
    · rw [Int.toNat_natCast, addr_add, Nat.zero_add]; exact h11.ld (by repeat (first | exact List.Mem.head _ | refine List.Mem.tail _ ?_)) p1
    · rw [Int.toNat_natCast, addr_add, addr_add, Nat.zero_add]; exact h11.ld (by repeat (first | exact List.Mem.head _ | refine List.Mem.tail _ ?_)) p2
    refine Alloc.t h11 fun k14 w12 h12 => St.t h12 .head (by simp) (by rfl) rfl fun w13 h13 => St.t h13 .head (by simp) (by rfl) rfl fun w14 h14 => ?_
    have wi : IntKind.i64.wrap ((i : Int) + 3) = ((3 + i : Nat) : Int) := by rw [wrap64 _ (by omega) (by omega)]; omega
    have hsm := hb3 (3 + i) (by omega)
    rw [wi]
    refine ⟨fun w' => T [] w w' _, h14.drew, _, fun w' hd => hd.ld List.mem_cons_self rfl, _, rfl, by omega, by show _ < (11 : Int); omega, ((l.getD (3 + i) 0 : Nat) : Int), fun w' hd => ?_, ?_⟩
    · rw [Int.toNat_natCast, addr_add, Nat.zero_add, Nat.mul_one]; exact rdF (by omega) hd (by repeat (first | exact List.Mem.head _ | refine List.Mem.tail _ ?_))
    · have e64 : IntKind.i64.wrap ((l.getD (3 + i) 0 : Nat) : Int) = ((l.getD (3 + i) 0 : Nat) : Int) := wrap64 _ (by omega) (by omega)
      rw [e64]
      refine stV (l := l) (k1 := k11) (k4 := k12) i hlt h14.drew.drop fun w15 h15 => ⟨⟨i + 1, by rw [wrap64 _ (by omega) (by omega)]; rfl, by omega, h15⟩, by
        show ((8 : Int) - IntKind.i64.wrap ((i : Int) + 1)).toNat < ((8 : Int) - (i : Int)).toNat
        rw [wrap64 _ (by omega) (by omega)]; omega⟩
  · have hie : i = 8 := by omega
    subst hie
    have hcl : (clI l 8 == 1) = (supL l).clean := by
      show (((l.getD 7 0 : Nat) : Int) == 1) = (l.getD 7 0 == 1)
      rw [Bool.eq_iff_iff, beq_iff_eq, beq_iff_eq]; omega
    refine ⟨_, h11.ld (by repeat (first | exact List.Mem.head _ | refine List.Mem.tail _ ?_)) rfl, ?_⟩
    rw [hcl]
    refine St.t (c' := supC (supL l)) h11 (.tail .head) (show 6 < 10 by decide) rfl rfl fun w12 h12 => rd10 h12 (k := k11) (t := 58) (by repeat (first | exact List.Mem.head _ | refine List.Mem.tail _ ?_)) ?_
    refine (sencodeF_spec (supL_u64 hll hlf) w12).mono fun e w13 ⟨he, hx13⟩ => ⟨_, _, he, ?_⟩
    have h13 := h12.quiet hx13
    have h14 := h13.swap (Pick.perm (a := blk k2 (supC sup0) 58) (.tail (.tail (.tail (.tail (.tail .head))))))
    refine ⟨bne_t fun hc => ?_, bne_f fun hc => ⟨fun hb => ?_, fun hb => ?_⟩⟩
    · rw [if_neg (fun e => hc (by rw [e]))]
      exact st10 (a := sup0) (b := sup0) h14 fun w15 h15 => rd10 h15 (k := k2) (t := 58) (by repeat (first | exact List.Mem.head _ | refine List.Mem.tail _ ?_)) ⟨rfl, h15.chg.ext⟩
    · rw [if_neg (fun e => by
        have : strB (encF (supL l)).1 = s := by rw [e]
        rw [this] at hb
        simp at hb)]
      exact st10 (a := sup0) (b := sup0) h14 fun w15 h15 => rd10 h15 (k := k2) (t := 58) (by repeat (first | exact List.Mem.head _ | refine List.Mem.tail _ ?_)) ⟨rfl, h15.chg.ext⟩
    · have hb' : strB (encF (supL l)).1 = s := bytes_inj (by simpa using hb)
      have hq : (strB (encF (supL l)).1).data.toList = s.data.toList := by rw [hb']
      have he' : encF (supL l) = (s.data.toList, 0) := Prod.ext hq hc
      rw [if_pos he']
      refine rd10 h13 (k := k11) (a := supL l) (t := 58) (by repeat (first | exact List.Mem.head _ | refine List.Mem.tail _ ?_)) ?_
      refine st10 (a := sup0) (b := supL l) h14 fun w15 h15 => rd10 h15 (k := k2) (t := 58) (by repeat (first | exact List.Mem.head _ | refine List.Mem.tail _ ?_)) ⟨rfl, h15.chg.ext⟩
theorem supL_fields {a : SupV} (h : RngS a) : supL (fieldsS a) = a := by
  obtain ⟨h1, h2, h3, h4, h5, h6, h7, h8, h9⟩ := h
  obtain ⟨u, e, r, c, k, o, cl, b, n, g⟩ := a
  simp only [supL, fieldsS, List.getD_cons_succ, List.getD_cons_zero, SupV.mk.injEq] at *
  refine ⟨by omega, by omega, by omega, by omega, by omega, by omega, ?_, by omega, by omega, by omega⟩
  cases cl <;> rfl
theorem encS_take (a : SupV) : (encS a).take 31 = packS a := by
  show (padB (packS a) 60 ++ _).take 31 = _
  unfold padB
  rw [List.append_assoc, List.take_left' (packS_len a)]
theorem decoded {a : SupV} (h : RngS a) : decP (packS a) supW = fieldsS a := by
  have := dec_enc (fieldsS a) supW [] (fieldsS_len a) (fitsL_zip (fieldsS_fit h))
  rw [List.append_nil] at this
  exact this
theorem decF_enc {a : SupV} (hm : MayF a) (hu : U64S a) : decF (encS a) = (a, 0) := by
  have hr := hm.rng hu
  have ho : openB (encS a) = (padB (packS a) 60, true) := open_seal (by rw [packS_len]; omega)
  unfold decF
  rw [if_pos (encS_len a), ho, if_pos rfl, encS_take, decoded hr, if_pos (show (fieldsS a).getD 0 0 = 827610706 from rfl), supL_fields hr, encF_may hm, if_pos rfl]
theorem decF_zero (b : List UInt8) (h : (decF b).2 ≠ 0) : (decF b).1 = sup0 := by
  unfold decF at h ⊢
  split
  · rename_i h1; rw [if_pos h1] at h
    split
    · rename_i h2; rw [if_pos h2] at h
      split
      · rename_i h3; rw [if_pos h3] at h
        split
        · rename_i h4; rw [if_pos h4] at h; exact absurd rfl h
        · rfl
      · rfl
    · rfl
  · rfl
theorem decF_u64 (b : List UInt8) : U64S (decF b).1 := by
  have h0 : U64S sup0 := ⟨⟨by decide, by decide⟩, ⟨by decide, by decide⟩⟩
  unfold decF
  split
  · split
    · split
      · split
        · exact supL_u64 (decP_len _ _) (decP_fits _ _)
        · exact h0
      · exact h0
    · exact h0
  · exact h0
theorem decode_good {a : SupV} (h : MayS a) (w : World) : Ret Try.prog 66 #[.string (strB (encS a))] w (.tuple #[.agg (supC a), .int .i64 0]) := by
  have := decodeF_spec (strB (encS a)) w
  rw [show (strB (encS a)).data.toList = encS a from rfl, decF_enc h.f h.u64] at this
  exact this
end Go.Proofs.Ytdppllkjibfjcaa
end
section
/-! super: Decode of what is no superblock. -/
namespace Go.Proofs.Ytdppllkjibfjcaa
open Go.Sh Go.RowKit
set_option linter.unusedVariables false
set_option maxRecDepth 20000
set_option maxHeartbeats 1000000
def badE (s : List UInt8) : Int := if (openB s).2 then 81 else 80
theorem badE_ne (s : List UInt8) : badE s ≠ 0 := by unfold badE; split <;> decide
theorem leN_mod (b : UInt8) (l : List UInt8) : leN (b :: l) % 256 = b.toNat := by
  have := b.toNat_lt
  simp only [leN]; omega
theorem decode_bad {s : ByteArray} (hs : s.size = 64) (hb : s.data.toList.getD 0 0 ≠ 82) (w : World) : Ret Try.prog 66 #[.string s] w (.tuple #[.agg (supC sup0), .int .i64 (badE s.data.toList)]) := by
  refine ret_of (super_Decode_calls ?_)
  unfold super_Decode
  have hl : s.data.toList.length = 64 := by rw [Array.length_toList]; exact hs
  refine Alloc.t (T.nil w) fun k2 w1 h1 => ?_
  have h1 : T [] w w1 [blk k2 (supC sup0) 58] := h1
  refine no (by rw [hs]; rfl) ?_
  refine (open_spec s (by omega) w1).mono fun e w2 ⟨he, hx2⟩ => ⟨_, _, he, ?_⟩
  have h2 := h1.quiet hx2
  unfold badE
  cases ho : (openB s.data.toList).2 with
  | false =>
    refine yes rfl ?_
    exact st10 (a := sup0) (b := sup0) h2 fun w15 h15 => rd10 h15 (k := k2) (t := 58) (by repeat (first | exact List.Mem.head _ | refine List.Mem.tail _ ?_)) ⟨rfl, h15.chg.ext⟩
  | true =>
    refine no rfl ?_
    have ho1 : (openB s.data.toList).1 = s.data.toList.take 60 := by
      unfold openB at ho ⊢
      rw [hl] at ho ⊢
      rw [if_neg (by omega)] at ho ⊢
      split at ho
      · rename_i hq
        rw [if_pos hq]
      · cases ho
    rw [ho1]
    refine (widths_spec h2).mono fun e w3 ⟨g, c, he, h3⟩ => ⟨_, _, _, he, ?_⟩
    refine (size_spec supW_wid (T.readsW h3 List.mem_cons_self)).mono fun e w4 ⟨he, hx4⟩ => ⟨_, _, he, ?_⟩
    have h4 := h3.quiet hx4
    have hp60 : (strB (s.data.toList.take 60)).size = 60 := by rw [strB_size, List.length_take]; omega
    have hsl : ∀ w', (Instr.sliceAt 9 (.string (strB (s.data.toList.take 60))) none (some (.int .i64 31)) none).run Try.prog w' = .ok (.string (strB (s.data.toList.take 31))) w' := fun w' => by
      rw [slice_to (by kernel_rfl) (by omega) (by rw [hp60]; omega)]
      rw [show (31 : Int).toNat = 31 from rfl, strB_extract, List.drop_zero, Nat.sub_zero, List.take_take]
      rfl
    refine ⟨_, w4, hsl w4, ?_⟩
    refine (decode_spec supW_wid (s := strB (s.data.toList.take 31)) (by rw [strB_size, List.length_take, hl]; rfl) h4 (g2 := g) (n2 := 11) (c2 := c) rfl List.mem_cons_self).mono fun e w5 ⟨b, he, h5⟩ => ⟨_, _, _, _, he, no rfl ?_⟩
    have hd : (decP (strB (s.data.toList.take 31)).data.toList supW)[0]? = some (leN (s.data.toList.take 4)) := by
      show some (leN ((s.data.toList.take 31).take 4)) = _
      rw [List.take_take]
      rfl
    refine ⟨_, rfl, by omega, by show (0 : Int) < 11; omega, _, rowP.cell (h5.says List.mem_cons_self) (u64s_get hd), yes ?_ ?_⟩
    · have hne : leN (s.data.toList.take 4) ≠ 827610706 := by
        intro h
        cases hq : s.data.toList with
        | nil => rw [hq] at hl; cases hl
        | cons b0 r =>
          rw [hq] at h hb
          have h1 : leN ((b0 :: r).take 4) % 256 = b0.toNat := leN_mod b0 (r.take 3)
          rw [h] at h1
          apply hb
          show b0 = 82
          apply UInt8.toNat_inj.1
          rw [← h1]; rfl
      simp only [bne_iff_ne, ne_eq]
      omega
    · have h6 : T [] w w5 (blk k2 (supC sup0) 58 :: _) := h5.swap (Pick.perm (.tail (.tail .head)))
      exact st10 (a := sup0) (b := sup0) h6 fun w15 h15 => rd10 h15 (k := k2) (t := 58) (by repeat (first | exact List.Mem.head _ | refine List.Mem.tail _ ?_)) ⟨rfl, h15.chg.ext⟩
end Go.Proofs.Ytdppllkjibfjcaa
end
