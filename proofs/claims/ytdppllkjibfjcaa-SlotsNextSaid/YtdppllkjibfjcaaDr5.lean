import Derived.Test.YtdppllkjibfjcaaDr4
import Derived.Lib.ConvBytes
/-! drive: put, Write. -/
namespace Go.Proofs.Ytdppllkjibfjcaa
open Go.Sh
set_option linter.unusedVariables false
set_option maxHeartbeats 1000000
set_option maxRecDepth 20000
theorem bytes_ext (w : World) (e : TypeId) (s : ByteArray) : Ext w (Go.Lib.bytesWorld w e s) :=
  ⟨rfl, rfl, by rw [Go.Lib.bytesWorld_size]; omega, fun b hb => Go.Lib.bytesWorld_at_old w e s b hb⟩
theorem T.sub {F : List Nat} {w0 w : World} {X Δ : List A} (h : T F w0 w (X ++ Δ)) : Has w Δ := by
  have hn := h.nodup
  rw [feet_append, List.nodup_append] at hn
  exact ⟨hn.2.1, fun b hb => (h.own b (by rw [feet_append]; exact List.mem_append_right _ hb)).1, fun a ha => h.holds a (List.mem_append_right _ ha)⟩
def putG (D : DL) (i : Int) (s : ByteArray) : Int := if mayG D i ≠ 0 then mayG D i else if s.size ≠ 64 then 1 else 0
theorem arr_at (a : Addr) (c : Nat) (w : World) : (Instr.arrayAt 88 (.slice (some a) 64 c)).run Try.prog w = .ok (.pointer (some a)) w := by kernel_rfl
theorem T.subL {F : List Nat} {w0 w : World} {Γ Δ : List A} (h : T F w0 w (Γ ++ Δ)) : Has w Γ := T.sub (X := Δ) (h.swap List.perm_append_comm)
theorem CallF.func {P : Program} {f : FuncId} {first captured : Array Value} {args : List Value} {w : World} {Ψ : Ending → World → Prop} (hb : bodyB P f = true) (h : Calls P f (first.toList ++ args ++ captured.toList).toArray w Ψ) : CallF P (.func (.func f) first captured) args w Ψ := by
  show if bodyB P f then _ else _
  rw [if_pos hb]
  exact h
theorem CallF.mono {P : Program} {fv : Value} {args : List Value} {w : World} {Ψ Ψ' : Ending → World → Prop} (h : CallF P fv args w Ψ) (hm : ∀ e w, Ψ e w → Ψ' e w) : CallF P fv args w Ψ' := by
  unfold CallF at *
  split at h
  · split at h
    · rename_i hb
      simp only [hb, if_true]
      exact Calls.mono h hm
    · exact h.elim
  · rename_i hne
    exact Does.mono h fun v w' hv => hm _ _ hv
theorem put_spec (D : DL) (i : Int) (s : ByteArray) (fv : Value) {F : List Nat} {w0 w : World} {X : List A} {Φ : World → Prop} (hT : T F w0 w (X ++ drvL D))
    (hcl : mayG D i = 0 → s.size = 64 → ∀ w1, T F w0 w1 (X ++ drvL D) → CallF Try.prog fv [.agg (vals s).toArray] w1 fun e w' => e = .returned (.tuple #[]) ∧ Φ w') :
    Calls Try.prog 44 #[.pointer (some ⟨D.p, 0, none⟩), .int .i64 i, .string s, fv] w fun e w' => ∃ v, e = .returned v ∧ v = .int .i64 (putG D i s) ∧ (putG D i s = 0 → Φ w') ∧ (putG D i s ≠ 0 → T F w0 w' (X ++ drvL D)) := by
  refine drive_Drive_put_calls ?_
  unfold drive_Drive_put
  refine Ret.useT hT (may_spec D i _ (T.sub hT)) fun w1 hT1 => ⟨_, rfl, ?_⟩
  refine Join.intro fun J hJ => ?_
  have done : ∀ (n : Int), n ≠ 0 → putG D i s = n → J [.int .i64 n] w1 := fun n hn hp => by
    refine hJ _ _ ⟨_, rfl, beq_t fun h => absurd h hn, beq_f fun _ => ⟨by rw [hp], fun h0 => absurd (hp ▸ h0) hn, fun _ => hT1⟩⟩
  refine ⟨beq_t fun hm => ⟨bne_t fun hs => done 1 (by omega) ?_, bne_f fun hs => ?_⟩, beq_f fun hm => done _ hm (by simp only [putG, if_pos hm])⟩
  · simp only [putG, hm, ne_eq, not_true, if_false]
    rw [if_pos (by omega)]
  · have hs : s.size = 64 := by omega
    have hp : putG D i s = 0 := by simp [putG, hm, hs]
    rw [hm]
    refine hJ _ _ ⟨_, rfl, beq_t fun _ => ?_, beq_f fun h => absurd rfl h⟩
    have hc := Go.Lib.run_convert_string_bytes (P := Try.prog) (u := .string) w1 9 30 5 s (by kernel_rfl) (by kernel_rfl) (by kernel_rfl)
    rw [hs] at hc
    have hx := bytes_ext w1 5 s
    refine ⟨_, _, _, _, hc, _, _, arr_at _ _ _, (vals s).toArray, by rw [List.size_toArray, vals_len, hs], ?_, ?_⟩
    · intro j hj
      rw [List.size_toArray, vals_len, hs] at hj
      rw [addr_add, Nat.zero_add, Go.Lib.bytesWorld_cell w1 _ s j (by omega)]
      have := vals_get (s := s) (j := j) (by omega)
      rw [List.getElem?_toArray, this]
      have hl : j < s.data.toList.length := by rw [data_len]; omega
      simp [List.getD, List.getElem?_eq_getElem hl]
    · refine CallF.mono (hcl hm hs _ (hT1.quiet hx)) fun e w' ⟨he, hφ⟩ => ⟨he, by rw [hp], fun _ => hφ, fun h => absurd hp h⟩
theorem write_spec (D : DL) (i : Int) (s : ByteArray) {F : List Nat} {w0 w : World} {X : List A} (hT : T F w0 w (X ++ drvL D)) (hD : DOk D) (hL : ∀ e ∈ D.ws, e.l.length ≤ 1000000) :
    Calls Try.prog 14 #[.pointer (some ⟨D.p, 0, none⟩), .int .i64 i, .string s] w fun e w' => ∃ v, e = .returned v ∧ v = .int .i64 (putG D i s) ∧ ∃ D', (putG D i s = 0 → Wrote D i s D') ∧ (putG D i s ≠ 0 → D' = D) ∧ T F w0 w' (X ++ drvL D') := by
  refine drive_Drive_Write_calls ?_
  unfold drive_Drive_Write
  refine Alloc.t hT fun k3 w1 hT1 => Alloc.t hT1 fun k4 w2 hT2 => ⟨_, hT2.ld (by first | exact List.Mem.head _ | exact List.Mem.tail _ (List.Mem.head _) | exact List.Mem.tail _ (List.Mem.tail _ (List.Mem.head _)) | exact List.Mem.tail _ (List.Mem.tail _ (List.Mem.tail _ (List.Mem.head _))) | exact List.Mem.tail _ (List.Mem.tail _ (List.Mem.tail _ (List.Mem.tail _ (List.Mem.head _)))) | exact List.Mem.tail _ (List.Mem.tail _ (List.Mem.tail _ (List.Mem.tail _ (List.Mem.tail _ (List.Mem.head _))))) | exact List.Mem.tail _ (List.Mem.tail _ (List.Mem.tail _ (List.Mem.tail _ (List.Mem.tail _ (List.Mem.tail _ (List.Mem.head _)))))) | exact List.Mem.tail _ (List.Mem.tail _ (List.Mem.tail _ (List.Mem.tail _ (List.Mem.tail _ (List.Mem.tail _ (List.Mem.tail _ (List.Mem.head _))))))) | exact List.Mem.tail _ (List.Mem.tail _ (List.Mem.tail _ (List.Mem.tail _ (List.Mem.tail _ (List.Mem.tail _ (List.Mem.tail _ (List.Mem.tail _ (List.Mem.head _)))))))) | exact List.Mem.tail _ (List.Mem.tail _ (List.Mem.tail _ (List.Mem.tail _ (List.Mem.tail _ (List.Mem.tail _ (List.Mem.tail _ (List.Mem.tail _ (List.Mem.tail _ (List.Mem.head _))))))))) | exact List.Mem.tail _ (List.Mem.tail _ (List.Mem.tail _ (List.Mem.tail _ (List.Mem.tail _ (List.Mem.tail _ (List.Mem.tail _ (List.Mem.tail _ (List.Mem.tail _ (List.Mem.tail _ (List.Mem.head _)))))))))) | exact List.Mem.tail _ (List.Mem.tail _ (List.Mem.tail _ (List.Mem.tail _ (List.Mem.tail _ (List.Mem.tail _ (List.Mem.tail _ (List.Mem.tail _ (List.Mem.tail _ (List.Mem.tail _ (List.Mem.tail _ (List.Mem.head _)))))))))))) rfl, _, hT2.ld (by first | exact List.Mem.head _ | exact List.Mem.tail _ (List.Mem.head _) | exact List.Mem.tail _ (List.Mem.tail _ (List.Mem.head _)) | exact List.Mem.tail _ (List.Mem.tail _ (List.Mem.tail _ (List.Mem.head _))) | exact List.Mem.tail _ (List.Mem.tail _ (List.Mem.tail _ (List.Mem.tail _ (List.Mem.head _)))) | exact List.Mem.tail _ (List.Mem.tail _ (List.Mem.tail _ (List.Mem.tail _ (List.Mem.tail _ (List.Mem.head _))))) | exact List.Mem.tail _ (List.Mem.tail _ (List.Mem.tail _ (List.Mem.tail _ (List.Mem.tail _ (List.Mem.tail _ (List.Mem.head _)))))) | exact List.Mem.tail _ (List.Mem.tail _ (List.Mem.tail _ (List.Mem.tail _ (List.Mem.tail _ (List.Mem.tail _ (List.Mem.tail _ (List.Mem.head _))))))) | exact List.Mem.tail _ (List.Mem.tail _ (List.Mem.tail _ (List.Mem.tail _ (List.Mem.tail _ (List.Mem.tail _ (List.Mem.tail _ (List.Mem.tail _ (List.Mem.head _)))))))) | exact List.Mem.tail _ (List.Mem.tail _ (List.Mem.tail _ (List.Mem.tail _ (List.Mem.tail _ (List.Mem.tail _ (List.Mem.tail _ (List.Mem.tail _ (List.Mem.tail _ (List.Mem.head _))))))))) | exact List.Mem.tail _ (List.Mem.tail _ (List.Mem.tail _ (List.Mem.tail _ (List.Mem.tail _ (List.Mem.tail _ (List.Mem.tail _ (List.Mem.tail _ (List.Mem.tail _ (List.Mem.tail _ (List.Mem.head _)))))))))) | exact List.Mem.tail _ (List.Mem.tail _ (List.Mem.tail _ (List.Mem.tail _ (List.Mem.tail _ (List.Mem.tail _ (List.Mem.tail _ (List.Mem.tail _ (List.Mem.tail _ (List.Mem.tail _ (List.Mem.tail _ (List.Mem.head _)))))))))))) rfl, ?_⟩
  refine (put_spec D i s _ (X := blk k4 #[.int .i64 i] 3 :: blk k3 #[.pointer (some ⟨D.p, 0, none⟩)] 24 :: X) (Φ := fun w' => ∃ D', Wrote D i s D' ∧ T F w0 w' (X ++ drvL D')) hT2 fun hm hs w3 hT3 => ?_).mono fun e w' ⟨v, he, hv, h0, h1⟩ => ⟨_, hv ▸ he, rfl, ?_⟩
  · have hp1 : (blk k4 #[.int .i64 i] 3 :: blk k3 #[.pointer (some ⟨D.p, 0, none⟩)] 24 :: X ++ drvL D).Perm ((blk k3 #[.pointer (some ⟨D.p, 0, none⟩)] 24 :: blk k4 #[.int .i64 i] 3 :: drvL D) ++ X) :=
      (List.Perm.swap _ _ _).trans ((List.perm_append_comm.cons _).cons _)
    have hT4 := hT3.swap hp1
    have h4 := write1_spec D i s k3 k4 (T.subL hT4).start hD hs hL
    refine CallF.func (by kernel_rfl) ?_
    refine Calls.mono h4 fun e w' ⟨v, he, hv, D', hw, ht⟩ => ⟨hv ▸ he, D', hw, ?_⟩
    have ht2 := T.call hT4 ht
    exact (T.drop (T.drop ht2)).swap List.perm_append_comm
  · by_cases hp : putG D i s = 0
    · obtain ⟨D', hw, ht⟩ := h0 hp
      exact ⟨D', fun _ => hw, fun h => absurd hp h, ht⟩
    · exact ⟨D, fun h => absurd h hp, fun _ => rfl, T.drop (T.drop (h1 hp))⟩
end Go.Proofs.Ytdppllkjibfjcaa
