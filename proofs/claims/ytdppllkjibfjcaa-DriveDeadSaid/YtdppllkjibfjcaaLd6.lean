import Derived.Test.YtdppllkjibfjcaaRd4
import Derived.Test.YtdppllkjibfjcaaLd2
/-! drive's laws: both drives, alike; DriveDead. -/
namespace Go.Proofs.Ytdppllkjibfjcaa
open Go.Sh Go.Maps Go.RowKit
set_option linter.unusedVariables false
set_option maxHeartbeats 2000000
set_option maxRecDepth 20000
/-- the program's drive and the reference's, that stand alike -/
def Two (p q : Nat) (a : AD) (F : List Nat) (w0 w : World) (X : List A) : Prop := ∃ D R, D.p = p ∧ R.p = q ∧ Abs D a ∧ RAbs R a ∧ T F w0 w (refL R ++ (X ++ drvL D))
theorem Two.one {p q : Nat} {a : AD} {F : List Nat} {w0 w : World} {X : List A} (h : Two p q a F w0 w X) : ∃ R, R.p = q ∧ RAbs R a ∧ Dr p a F w0 w (refL R ++ X) := by
  obtain ⟨D, R, h1, h2, h3, h4, h5⟩ := h
  exact ⟨R, h2, h4, D, h1, h3, by rw [List.append_assoc]; exact h5⟩
theorem Two.of_one {p q : Nat} {a b : AD} {F : List Nat} {w0 w : World} {X : List A} {R : RL} (h1 : R.p = q) (h2 : RAbs R b) (h : Dr p a F w0 w (refL R ++ X)) : ∃ D, D.p = p ∧ Abs D a ∧ Rf q b F w0 w (X ++ drvL D) := by
  obtain ⟨D, h3, h4, h5⟩ := h
  exact ⟨D, h3, h4, R, h1, h2, by rw [← List.append_assoc]; exact h5⟩
theorem Two.make {p q : Nat} {a : AD} {F : List Nat} {w0 w : World} {X : List A} {D : DL} (h1 : D.p = p) (h2 : Abs D a) (h : Rf q a F w0 w (X ++ drvL D)) : Two p q a F w0 w X := by
  obtain ⟨R, h3, h4, h5⟩ := h
  exact ⟨D, R, h1, h3, h2, h4, h5⟩
theorem Two.quiet {p q : Nat} {a : AD} {F : List Nat} {w0 w w' : World} {X : List A} (h : Two p q a F w0 w X) (he : Ext w w') : Two p q a F w0 w' X := by
  obtain ⟨D, R, h1, h2, h3, h4, h5⟩ := h
  exact ⟨D, R, h1, h2, h3, h4, h5.quiet he⟩
theorem Two.drew {p q : Nat} {a : AD} {F : List Nat} {w0 w : World} {X : List A} (h : Two p q a F w0 w X) : Two p q a F w0 w.drew X := by
  obtain ⟨D, R, h1, h2, h3, h4, h5⟩ := h
  exact ⟨D, R, h1, h2, h3, h4, h5.drew⟩
theorem Two.under {p q : Nat} {a : AD} {F : List Nat} {w0 w : World} {X : List A} (h : Two p q a F w0 w X) : T F w0 w X := by
  obtain ⟨D, R, h1, h2, h3, h4, h5⟩ := h
  exact T.dropAll ((T.dropAll h5).swap List.perm_append_comm)
theorem Two.ext {p q : Nat} {a : AD} {w0 w : World} {X : List A} (h : Two p q a [] w0 w X) : Ext w0 w := h.under.chg.ext
theorem Two.swapX {p q : Nat} {a : AD} {F : List Nat} {w0 w : World} {X Y : List A} (h : Two p q a F w0 w X) (hp : X.Perm Y) : Two p q a F w0 w Y := by
  obtain ⟨D, R, h1, h2, h3, h4, h5⟩ := h
  exact ⟨D, R, h1, h2, h3, h4, h5.swap ((hp.append_right _).append_left _)⟩
/-- one more block ahead -/
theorem Two.alloc {p q : Nat} {a : AD} {F : List Nat} {w0 w : World} {X : List A} {c : Array Value} {t : TypeId} {K : Nat → World → Prop} (h : Two p q a F w0 w X) (hK : ∀ b w', Two p q a F w0 w' (blk b c t :: X) → K b w') : Alloc c t w K := by
  obtain ⟨D, R, h1, h2, h3, h4, h5⟩ := h
  refine Alloc.t h5 fun b w' hT => hK b w' ⟨D, R, h1, h2, h3, h4, hT.swap ?_⟩
  exact (List.perm_middle (l₁ := refL R)).symm
theorem Two.dropX {p q : Nat} {a : AD} {F : List Nat} {w0 w : World} {X : List A} {x : A} (h : Two p q a F w0 w (x :: X)) : Two p q a F w0 w X := by
  obtain ⟨D, R, h1, h2, h3, h4, h5⟩ := h
  exact ⟨D, R, h1, h2, h3, h4, T.drop (h5.swap (List.perm_middle (l₁ := refL R)))⟩
section
variable {p q : Nat} {a : AD} {F : List Nat} {w0 w : World} {X : List A}
/-- the same call at both -/
def Same2 (P : Program) (f g : FuncId) (p q : Nat) (args : List Value) (v : Value) (b : AD) (F : List Nat) (w0 w : World) (X : List A) : Prop :=
  Calls P f (Value.pointer (some ⟨p, 0, none⟩) :: args).toArray w fun e w1 => e = .returned v ∧ T F w0 w1 X ∧ ∀ w2, Ext w1 w2 → Calls P g (Value.pointer (some ⟨q, 0, none⟩) :: args).toArray w2 fun e w3 => e = .returned v ∧ Two p q b F w0 w3 X
theorem write_2 (h : Two p q a F w0 w X) (hF : a.Few 999999) (i : Int) (s : ByteArray) : Same2 Try.prog 14 26 p q [.int .i64 i, .string s] (.int .i64 (a.put i s)) (a.write i s) F w0 w X := by
  obtain ⟨R, h1, h2, h3⟩ := h.one
  refine (write_a h3 (hF.mono (by decide)) i s).mono fun e w1 ⟨he, hd⟩ => ⟨he, T.dropAll hd.under, fun w2 hx => ?_⟩
  obtain ⟨D, h4, h5, h6⟩ := Two.of_one h1 h2 (hd.quiet hx)
  exact (rwrite_r h6 hF i s).mono fun e w3 ⟨he, hr⟩ => ⟨he, Two.make h4 h5 hr⟩
theorem flush_2 (h : Two p q a F w0 w X) (hF : a.Few 999999) : Same2 Try.prog 16 27 p q [] (.int .i64 a.flush1) a.flush F w0 w X := by
  obtain ⟨R, h1, h2, h3⟩ := h.one
  refine (flush_a h3 (hF.mono (by decide))).mono fun e w1 ⟨he, hd⟩ => ⟨he, T.dropAll hd.under, fun w2 hx => ?_⟩
  obtain ⟨D, h4, h5, h6⟩ := Two.of_one h1 h2 (hd.quiet hx)
  exact (rflush_r h6 (hF.mono (by decide))).mono fun e w3 ⟨he, hr⟩ => ⟨he, Two.make h4 h5 hr⟩
theorem spoil_2 (h : Two p q a F w0 w X) (i : Int) : Same2 Try.prog 21 41 p q [.int .i64 i] (.int .i64 (a.may i)) (a.spoil i) F w0 w X := by
  obtain ⟨R, h1, h2, h3⟩ := h.one
  refine (spoil_a h3 i).mono fun e w1 ⟨he, hd⟩ => ⟨he, T.dropAll hd.under, fun w2 hx => ?_⟩
  obtain ⟨D, h4, h5, h6⟩ := Two.of_one h1 h2 (hd.quiet hx)
  exact (rspoil_r h6 i).mono fun e w3 ⟨he, hr⟩ => ⟨he, Two.make h4 h5 hr⟩
theorem change_2 (h : Two p q a F w0 w X) (i : Int) (s : ByteArray) : Same2 Try.prog 30 56 p q [.int .i64 i, .string s] (.int .i64 (a.put i s)) (a.change i s) F w0 w X := by
  obtain ⟨R, h1, h2, h3⟩ := h.one
  refine (change_a h3 i s).mono fun e w1 ⟨he, hd⟩ => ⟨he, T.dropAll hd.under, fun w2 hx => ?_⟩
  obtain ⟨D, h4, h5, h6⟩ := Two.of_one h1 h2 (hd.quiet hx)
  exact (rchange_r h6 i s).mono fun e w3 ⟨he, hr⟩ => ⟨he, Two.make h4 h5 hr⟩
theorem off_2 (h : Two p q a F w0 w X) (n : Int) (hn : n ≤ 9223372036854775807) : Same2 Try.prog 20 57 p q [.int .i64 n] (.tuple #[]) (a.setOff n) F w0 w X := by
  obtain ⟨R, h1, h2, h3⟩ := h.one
  refine (off_a h3 n hn).mono fun e w1 ⟨he, hd⟩ => ⟨he, T.dropAll hd.under, fun w2 hx => ?_⟩
  obtain ⟨D, h4, h5, h6⟩ := Two.of_one h1 h2 (hd.quiet hx)
  exact (roff_set h6 n hn).mono fun e w3 ⟨he, hr⟩ => ⟨he, Two.make h4 h5 hr⟩
theorem crash_2 (h : Two p q a F w0 w X) (hF : a.Few 999999) (keep : List UInt8) (r : Option Addr) (c : Nat) (hkl : keep.length ≤ 1000000) (hk : ∀ w1, T F w0 w1 X → bytesAt w1 r keep) : Same2 Try.prog 17 42 p q [.slice r keep.length c] (.tuple #[]) (a.crash keep) F w0 w X := by
  obtain ⟨R, h1, h2, h3⟩ := h.one
  refine (crash_a h3 (hF.mono (by decide)) keep r c hkl fun w1 hT => hk w1 (T.dropAll hT)).mono fun e w1 ⟨he, hd⟩ => ⟨he, T.dropAll hd.under, fun w2 hx => ?_⟩
  obtain ⟨D, h4, h5, h6⟩ := Two.of_one h1 h2 (hd.quiet hx)
  exact (rcrash_r h6 (hF.mono (by decide)) keep r c hkl fun w1 hT => hk w1 (T.dropAll (hT.swap List.perm_append_comm))).mono fun e w3 ⟨he, hr⟩ => ⟨he, Two.make h4 h5 hr⟩
theorem read_2 (h : Two p q a F w0 w X) (hF : a.Few 999999) (i : Int) : Same2 Try.prog 18 55 p q [.int .i64 i] (.tuple #[.string (a.read i).1, .int .i64 (a.read i).2]) a F w0 w X := by
  obtain ⟨R, h1, h2, h3⟩ := h.one
  refine (read_a h3 (hF.mono (by decide)) i).mono fun e w1 ⟨he, hx⟩ => ⟨he, T.dropAll (h3.quiet hx).under, fun w2 hx2 => ?_⟩
  obtain ⟨D, h4, h5, h6⟩ := Two.of_one h1 h2 ((h3.quiet hx).quiet hx2)
  exact (rread_r h6 (hF.mono (by decide)) i).mono fun e w3 ⟨he, hr⟩ => ⟨he, Two.make h4 h5 (h6.quiet hr)⟩
theorem safe_2 (h : Two p q a F w0 w X) (i : Int) : Same2 Try.prog 22 58 p q [.int .i64 i] (.tuple #[.string (a.safeAt i).1, .int .i64 (a.safeAt i).2]) a F w0 w X := by
  obtain ⟨R, h1, h2, h3⟩ := h.one
  refine (safe_a h3 i).mono fun e w1 ⟨he, hx⟩ => ⟨he, T.dropAll (h3.quiet hx).under, fun w2 hx2 => ?_⟩
  obtain ⟨D, h4, h5, h6⟩ := Two.of_one h1 h2 ((h3.quiet hx).quiet hx2)
  exact (rsafe_r h6 i).mono fun e w3 ⟨he, hr⟩ => ⟨he, Two.make h4 h5 (h6.quiet hr)⟩
theorem die_2 (h : Two p q a F w0 w X) : Calls Try.prog 28 #[.pointer (some ⟨p, 0, none⟩)] w fun e w1 => e = .returned (.tuple #[]) ∧ ∀ K : World → Prop, (∀ w', Two p q a.die F w0 w' X → K w') → St (Addr.add ⟨q, 0, none⟩ 3) (.bool true) w1 K := by
  obtain ⟨R, h1, h2, h3⟩ := h.one
  refine (die_a h3).mono fun e w1 ⟨he, hd⟩ => ⟨he, fun K hK => ?_⟩
  obtain ⟨D, h4, h5, h6⟩ := Two.of_one h1 h2 hd
  exact rgone h6 fun w' hr => hK w' (Two.make h4 h5 hr)
end
/-- what a call turns a drive into -/
def actA (a : AD) (k i : Int) (s : ByteArray) (keep : List UInt8) : AD :=
  if k = 0 then a.write i (fullB s) else if k = 1 then a.write i s else if k = 2 then a else if k = 3 then a.flush else if k = 4 then a.crash keep else if k = 5 then a.spoil i else if k = 6 then a.change i (fullB s) else if k = 7 then a.die else if k = 9 then a.setOff i else a
theorem does_spec {p q : Nat} {a : AD} {w0 w : World} (h : Two p q a [] w0 w []) (hF : a.Few 999998) (k i : Int) (hi : i ≤ 9223372036854775807) (s : ByteArray) (hs : s.size ≤ 9000000000000000000) (keep : List UInt8) (hkl : keep.length ≤ 1000000) (r : Option Addr) (c : Nat) (hk : bytesAt w0 r keep) :
    Calls Try.prog 29 #[.pointer (some ⟨p, 0, none⟩), .pointer (some ⟨q, 0, none⟩), .agg #[.int .i64 k, .int .i64 i, .string s, .slice r keep.length c]] w fun e w' => e = .returned (.bool true) ∧ Two p q (actA a k i s keep) [] w0 w' [] := by
  refine (revetmentlaw04_does_calls (R := fun v w' => v = .bool true ∧ Two p q (actA a k i s keep) [] w0 w' []) ?_).mono fun e w' ⟨v, he, hv, ht⟩ => ⟨hv ▸ he, ht⟩
  unfold revetmentlaw04_does
  have hF' : a.Few 999999 := hF.mono (by decide)
  refine h.alloc fun k5 w1 h1 => ?_
  have ldT : ∀ {w' : World}, T [] w0 w' [blk k5 #[.int .i64 k, .int .i64 i, .string s, .slice r keep.length c] 51] → ∀ (j : Nat) (v : Value), #[Value.int .i64 k, .int .i64 i, .string s, .slice r keep.length c][j]? = some v → w'.cell? ⟨k5, j, none⟩ = some v := fun h j v hv => h.ld List.mem_cons_self hv
  have ld : ∀ {b : AD} {w' : World}, Two p q b [] w0 w' [blk k5 #[.int .i64 k, .int .i64 i, .string s, .slice r keep.length c] 51] → ∀ (j : Nat) (v : Value), #[Value.int .i64 k, .int .i64 i, .string s, .slice r keep.length c][j]? = some v → w'.cell? ⟨k5, j, none⟩ = some v := fun h => ldT h.under
  have hk' : ∀ w1, T [] w0 w1 [blk k5 #[.int .i64 k, .int .i64 i, .string s, .slice r keep.length c] 51] → bytesAt w1 r keep := fun w1 hT => hk.ext hT.chg.ext
  refine ⟨_, ld h1 0 _ rfl, beq_t fun hk0 => ?_, beq_f fun hk0 => ⟨beq_t fun hk1 => ?_, beq_f fun hk1 => ⟨beq_t fun hk2 => ?_, beq_f fun hk2 => ⟨beq_t fun hk3 => ?_, beq_f fun hk3 => ⟨beq_t fun hk4 => ?_, beq_f fun hk4 => ⟨beq_t fun hk5 => ?_, beq_f fun hk5 => ⟨beq_t fun hk6 => ?_, beq_f fun hk6 => ⟨beq_t fun hk7 => ?_, beq_f fun hk7 => ⟨beq_t fun hk9 => ?_, beq_f fun hk9 => ⟨beq_t fun hk8 => ?_, beq_f fun hk8 => ?_⟩⟩⟩⟩⟩⟩⟩⟩⟩⟩
  · -- Write, filled up
    have ha : actA a k i s keep = a.write i (fullB s) := by unfold actA; rw [if_pos hk0]
    rw [ha]
    have hd := h1.drew
    refine ⟨fun w' => w'.cell? ⟨k5, 1, none⟩ = some (.int .i64 i) ∧ w'.cell? ⟨k5, 2, none⟩ = some (.string s), ⟨ld hd 1 _ rfl, ld hd 2 _ rfl⟩, _, fun w h => h.1, _, fun w h => h.2, ?_⟩
    refine (full_spec s hs _).mono fun e w2 ⟨he, hx⟩ => ⟨_, he, ⟨ld (hd.quiet hx) 1 _ rfl, ld (hd.quiet hx) 2 _ rfl⟩, ?_⟩
    refine Calls.mono (write_2 (hd.quiet hx) hF' i (fullB s)) fun e w3 ⟨he, hT3, hg⟩ => ⟨_, he, ⟨ldT hT3 1 _ rfl, ldT hT3 2 _ rfl⟩, _, fun w h => h.1, _, fun w h => h.2, ?_⟩
    refine (full_spec s hs _).mono fun e w4 ⟨he, hx⟩ => ⟨_, he, ⟨ldT (hT3.quiet hx) 1 _ rfl, ldT (hT3.quiet hx) 2 _ rfl⟩, ?_⟩
    exact Calls.mono (hg w4 hx) fun e w5 ⟨he, h5⟩ => ⟨_, he, ⟨ld h5 1 _ rfl, ld h5 2 _ rfl⟩, by simp, h5.dropX⟩
  · have ha : actA a k i s keep = a.write i s := by unfold actA; rw [if_neg hk0, if_pos hk1]
    rw [ha]
    have hd := h1.drew
    refine ⟨fun w' => w'.cell? ⟨k5, 1, none⟩ = some (.int .i64 i) ∧ w'.cell? ⟨k5, 2, none⟩ = some (.string s), ⟨ld hd 1 _ rfl, ld hd 2 _ rfl⟩, _, fun w h => h.1, _, fun w h => h.2, ?_⟩
    refine Calls.mono (write_2 hd hF' i s) fun e w3 ⟨he, hT3, hg⟩ => ⟨_, he, ⟨ldT hT3 1 _ rfl, ldT hT3 2 _ rfl⟩, _, fun w h => h.1, _, fun w h => h.2, ?_⟩
    exact Calls.mono (hg w3 (.refl _)) fun e w5 ⟨he, h5⟩ => ⟨_, he, ⟨ld h5 1 _ rfl, ld h5 2 _ rfl⟩, by simp, h5.dropX⟩
  · have ha : actA a k i s keep = a := by unfold actA; rw [if_neg hk0, if_neg hk1, if_pos hk2]
    rw [ha]
    refine ⟨_, ld h1 1 _ rfl, Calls.mono (read_2 h1 hF' i) fun e w3 ⟨he, hT3, hg⟩ => ⟨_, _, he, _, ldT hT3 1 _ rfl, ?_⟩⟩
    exact Calls.mono (hg w3 (.refl _)) fun e w5 ⟨he, h5⟩ => ⟨_, _, he, yes (same_str _) ⟨by simp, h5.dropX⟩⟩
  · have ha : actA a k i s keep = a.flush := by unfold actA; rw [if_neg hk0, if_neg hk1, if_neg hk2, if_pos hk3]
    rw [ha]
    refine Calls.mono (flush_2 h1 hF') fun e w3 ⟨he, hT3, hg⟩ => ⟨_, he, ?_⟩
    exact Calls.mono (hg w3 (.refl _)) fun e w5 ⟨he, h5⟩ => ⟨_, he, by simp, h5.dropX⟩
  · have ha : actA a k i s keep = a.crash keep := by unfold actA; rw [if_neg hk0, if_neg hk1, if_neg hk2, if_neg hk3, if_pos hk4]
    rw [ha]
    refine ⟨_, _, _, ld h1 3 _ rfl, Calls.mono (crash_2 h1 hF' keep r c hkl hk') fun e w3 ⟨he, hT3, hg⟩ => ⟨he, _, _, _, ldT hT3 3 _ rfl, ?_⟩⟩
    exact Calls.mono (hg w3 (.refl _)) fun e w5 ⟨he, h5⟩ => ⟨he, rfl, h5.dropX⟩
  · have ha : actA a k i s keep = a.spoil i := by unfold actA; rw [if_neg hk0, if_neg hk1, if_neg hk2, if_neg hk3, if_neg hk4, if_pos hk5]
    rw [ha]
    have hd := h1.drew
    refine ⟨fun w' => w'.cell? ⟨k5, 1, none⟩ = some (.int .i64 i), ld hd 1 _ rfl, _, fun w h => h, ?_⟩
    refine Calls.mono (spoil_2 hd i) fun e w3 ⟨he, hT3, hg⟩ => ⟨_, he, ldT hT3 1 _ rfl, _, fun w h => h, ?_⟩
    exact Calls.mono (hg w3 (.refl _)) fun e w5 ⟨he, h5⟩ => ⟨_, he, ld h5 1 _ rfl, by simp, h5.dropX⟩
  · have ha : actA a k i s keep = a.change i (fullB s) := by unfold actA; rw [if_neg hk0, if_neg hk1, if_neg hk2, if_neg hk3, if_neg hk4, if_neg hk5, if_pos hk6]
    rw [ha]
    have hd := h1.drew
    refine ⟨fun w' => w'.cell? ⟨k5, 1, none⟩ = some (.int .i64 i) ∧ w'.cell? ⟨k5, 2, none⟩ = some (.string s), ⟨ld hd 1 _ rfl, ld hd 2 _ rfl⟩, _, fun w h => h.1, _, fun w h => h.2, ?_⟩
    refine (full_spec s hs _).mono fun e w2 ⟨he, hx⟩ => ⟨_, he, ⟨ld (hd.quiet hx) 1 _ rfl, ld (hd.quiet hx) 2 _ rfl⟩, ?_⟩
    refine Calls.mono (change_2 (hd.quiet hx) i (fullB s)) fun e w3 ⟨he, hT3, hg⟩ => ⟨_, he, ⟨ldT hT3 1 _ rfl, ldT hT3 2 _ rfl⟩, _, fun w h => h.1, _, fun w h => h.2, ?_⟩
    refine (full_spec s hs _).mono fun e w4 ⟨he, hx⟩ => ⟨_, he, ⟨ldT (hT3.quiet hx) 1 _ rfl, ldT (hT3.quiet hx) 2 _ rfl⟩, ?_⟩
    exact Calls.mono (hg w4 hx) fun e w5 ⟨he, h5⟩ => ⟨_, he, ⟨ld h5 1 _ rfl, ld h5 2 _ rfl⟩, by simp, h5.dropX⟩
  · have ha : actA a k i s keep = a.die := by unfold actA; rw [if_neg hk0, if_neg hk1, if_neg hk2, if_neg hk3, if_neg hk4, if_neg hk5, if_neg hk6, if_pos hk7]
    rw [ha]
    refine (die_2 h1).mono fun e w3 ⟨he, hK⟩ => ⟨he, _, rfl, hK _ fun w' h' => ⟨rfl, h'.dropX⟩⟩
  · have ha : actA a k i s keep = a.setOff i := by unfold actA; rw [if_neg hk0, if_neg hk1, if_neg hk2, if_neg hk3, if_neg hk4, if_neg hk5, if_neg hk6, if_neg hk7, if_pos hk9]
    rw [ha]
    refine ⟨_, ld h1 1 _ rfl, Calls.mono (off_2 h1 i hi) fun e w3 ⟨he, hT3, hg⟩ => ⟨he, _, ldT hT3 1 _ rfl, ?_⟩⟩
    exact Calls.mono (hg w3 (.refl _)) fun e w5 ⟨he, h5⟩ => ⟨he, rfl, h5.dropX⟩
  · have ha : actA a k i s keep = a := by unfold actA; rw [if_neg hk0, if_neg hk1, if_neg hk2, if_neg hk3, if_neg hk4, if_neg hk5, if_neg hk6, if_neg hk7, if_neg hk9]
    rw [ha]
    refine ⟨_, ld h1 1 _ rfl, Calls.mono (safe_2 h1 i) fun e w3 ⟨he, hT3, hg⟩ => ⟨_, _, he, _, ldT hT3 1 _ rfl, ?_⟩⟩
    exact Calls.mono (hg w3 (.refl _)) fun e w5 ⟨he, h5⟩ => ⟨_, _, he, yes (same_str _) ⟨by simp, h5.dropX⟩⟩
  · have ha : actA a k i s keep = a := by unfold actA; rw [if_neg hk0, if_neg hk1, if_neg hk2, if_neg hk3, if_neg hk4, if_neg hk5, if_neg hk6, if_neg hk7, if_neg hk9]
    rw [ha]
    exact ⟨rfl, h1.dropX⟩
end Go.Proofs.Ytdppllkjibfjcaa
