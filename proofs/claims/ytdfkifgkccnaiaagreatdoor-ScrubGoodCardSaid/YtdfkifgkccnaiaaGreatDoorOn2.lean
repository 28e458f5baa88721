import Derived.Test.YtdfkifgkccnaiaaGreatDoorOn1
/-! sync.Once: doSlow and Do, where make is what is handed on. -/
namespace Go.Proofs.YtdfkifgkccnaiaaGreatDoor
open Go.Proofs
set_option linter.unusedVariables false
set_option maxRecDepth 100000
set_option maxHeartbeats 1600000
theorem on_slow (b off : Nat) (p : Addr) (w : World) (Q : World → Prop)
    (h0 : w.cell? ⟨b, off, none⟩ = some (.int .u32 0)) (h1 : w.cell? ⟨b, off + 1, none⟩ = some (.int .i32 0))
    (f1 : w.frozen? ⟨b, off + 1, none⟩ = false)
    (hm : Calls Tryz.prog 100 #[.pointer (some p)] (w.setCell ⟨b, off + 1, none⟩ (.int .i32 1)) fun e w' => e = .returned (.tuple #[]) ∧ Q w')
    (hq0 : ∀ w', Q w' → w'.cell? ⟨b, off, none⟩ = some (.int .u32 0)) (hq1 : ∀ w', Q w' → w'.cell? ⟨b, off + 1, none⟩ = some (.int .i32 1))
    (hf0 : ∀ w', Q w' → w'.frozen? ⟨b, off, none⟩ = false) (hf1 : ∀ w', Q w' → w'.frozen? ⟨b, off + 1, none⟩ = false) :
    Calls Tryz.prog 119 #[.pointer (some ⟨b, off, none⟩), .func (.func 100) #[.pointer (some p)] #[]] w fun e w'' => e = .returned (.tuple #[]) ∧
      ∃ w', Q w' ∧ w'' = (w'.drew.setCell ⟨b, off, none⟩ (.int .u32 1)).setCell ⟨b, off + 1, none⟩ (.int .i32 0) := by
  have hl := run_call_load (P := Tryz.prog) Tryz.func131 (by kernel_rfl) (by kernel_rfl) (by kernel_rfl) .u32 (by kernel_rfl) (w := w.setCell ⟨b, off + 1, none⟩ (.int .i32 1)) (a := ⟨b, off, none⟩) (x := 0) ((World.cell?_setCell_other _ ⟨b, off + 1, none⟩ ⟨b, off, none⟩ _ (by simp)).trans h0)
  have hnot : ∀ (x : Bool) (w : World), (Op.unary .not (.bool x)).run Tryz.prog w = .ok (.bool (!x)) w := fun _ _ => rfl
  go_enter_defers Tryz.func119, Tryz.ntmps119
  go_wp2_with (first | (go_at_call 132; refine (on_lock ⟨b, off + 1, none⟩ _ (by go_simp) (by go_simp)).mono ?_; rintro e w' ⟨rfl, rfl⟩) | (go_at_call 100; refine hm.mono ?_; rintro e w' ⟨rfl, hq⟩) | (go_at_call 118; go_in))
  go_wp2
  refine leaves_cons (f := 134) (args := #[.pointer (some ⟨b, off, none⟩), .bool true]) (by simp) (by simp [go_sem]) ?_
  refine (on_store ⟨b, off, none⟩ (.int .u32 0) .returning _ (hq0 _ hq) (hf0 _ hq)).mono ?_
  rintro e u' w'' ⟨rfl, rfl, rfl⟩
  refine leaves_cons (f := 133) (args := #[.pointer (some ⟨b, off + 1, none⟩)]) (by simp [settle]) (by simp [go_sem]) ?_
  refine (on_unlock ⟨b, off + 1, none⟩ _ _ ?_ (by simp [hf1 _ hq])).mono ?_
  · refine (World.cell?_setCell_other _ ⟨b, off, none⟩ ⟨b, off + 1, none⟩ _ (by simp)).trans ?_
    rw [World.cell?_drew]
    exact hq1 _ hq
  rintro e u' w'' ⟨rfl, rfl, rfl⟩
  simp [Leaves, settle, results, Tryz.results119]
  exact ⟨_, hq, rfl⟩
theorem on_do (b off : Nat) (p : Addr) (w : World) (Q : World → Prop)
    (h0 : w.cell? ⟨b, off, none⟩ = some (.int .u32 0)) (h1 : w.cell? ⟨b, off + 1, none⟩ = some (.int .i32 0))
    (f1 : w.frozen? ⟨b, off + 1, none⟩ = false)
    (hm : Calls Tryz.prog 100 #[.pointer (some p)] (w.setCell ⟨b, off + 1, none⟩ (.int .i32 1)) fun e w' => e = .returned (.tuple #[]) ∧ Q w')
    (hq0 : ∀ w', Q w' → w'.cell? ⟨b, off, none⟩ = some (.int .u32 0)) (hq1 : ∀ w', Q w' → w'.cell? ⟨b, off + 1, none⟩ = some (.int .i32 1))
    (hf0 : ∀ w', Q w' → w'.frozen? ⟨b, off, none⟩ = false) (hf1 : ∀ w', Q w' → w'.frozen? ⟨b, off + 1, none⟩ = false) :
    Calls Tryz.prog 99 #[.pointer (some ⟨b, off, none⟩), .func (.func 100) #[.pointer (some p)] #[]] w fun e w'' => e = .returned (.tuple #[]) ∧
      ∃ w', Q w' ∧ w'' = (w'.drew.setCell ⟨b, off, none⟩ (.int .u32 1)).setCell ⟨b, off + 1, none⟩ (.int .i32 0) := by
  have hl := run_call_load (P := Tryz.prog) Tryz.func131 (by kernel_rfl) (by kernel_rfl) (by kernel_rfl) .u32 (by kernel_rfl) h0
  have hnot : ∀ (x : Bool) (w : World), (Op.unary .not (.bool x)).run Tryz.prog w = .ok (.bool (!x)) w := fun _ _ => rfl
  go_enter Tryz.func99, Tryz.ntmps99
  go_wp2_with (first | (go_at_call 119; refine (on_slow b off p _ Q h0 h1 f1 hm hq0 hq1 hf0 hf1).mono ?_; rintro e w'' ⟨rfl, w', hq, rfl⟩) | (go_at_call 118; go_in))
  go_end0
  exact ⟨rfl, _, hq, rfl⟩
end Go.Proofs.YtdfkifgkccnaiaaGreatDoor
