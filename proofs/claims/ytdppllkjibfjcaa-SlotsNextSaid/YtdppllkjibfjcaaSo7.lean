import Derived.Test.YtdppllkjibfjcaaSo6
/-! slots: Next. -/
namespace Go.Proofs.Ytdppllkjibfjcaa
open Go.Sh Go.RowKit
set_option linter.unusedVariables false
set_option linter.unusedSimpArgs false
set_option maxRecDepth 20000
set_option maxHeartbeats 1000000
section
variable {p : Nat} {a : AD} {F : List Nat} {w0 w : World} {X : List A}
theorem Dr.perm {X' : List A} (h : Dr p a F w0 w X) (hp : X.Perm X') : Dr p a F w0 w X' := by
  obtain ⟨D, h1, h2, hT⟩ := h
  exact ⟨D, h1, h2, hT.swap (hp.append_right _)⟩
theorem Dr.dropX {y : A} (h : Dr p a F w0 w (y :: X)) : Dr p a F w0 w X := by
  obtain ⟨D, h1, h2, hT⟩ := h
  exact ⟨D, h1, h2, T.drop hT⟩
theorem Dr.only {y : A} : ∀ {X : List A}, Dr p a F w0 w (y :: X) → Dr p a F w0 w [y]
  | [], h => h
  | _ :: X, h => Dr.only (X := X) (h.perm (.swap _ _ _)).dropX
theorem Dr.st1 {k i : Nat} {c c' : Array Value} {t : TypeId} {v : Value} {K : World → Prop} (h : Dr p a F w0 w (blk k c t :: X)) (hi : i < c.size) (hc : c.setIfInBounds i v = c') (hv : scalar v = true) (hK : ∀ w', Dr p a F w0 w' (blk k c' t :: X) → K w') : St ⟨k, i, none⟩ v w K := by
  obtain ⟨D, h1, h2, hT⟩ := h
  exact St.t (Γ := blk k c t :: (X ++ drvL D)) hT .head hi hc hv fun w' hT' => hK w' ⟨D, h1, h2, hT'⟩
theorem Dr.into {y : A} {K : Prop} (h : Dr p a F w0 w (y :: X)) (hK : ∀ Γ, T F w0 w (y :: Γ) → (∀ w' y', T F w0 w' (y' :: Γ) → Dr p a F w0 w' (y' :: X)) → K) : K := by
  obtain ⟨D, h1, h2, hT⟩ := h
  exact hK (X ++ drvL D) hT fun w' y' hT' => ⟨D, h1, h2, hT'⟩
theorem next_u {Φ : Ending → World → Prop} {n : Nat} {f : Nat → ByteArray} (h : Dr p a F w0 w X) (hh : a.Hold n f) (hn : 2 ≤ n) {s0 s1 : SupV} {b0 b1 : Bool} (hs0 : Cont (f 0) s0 b0) (hs1 : Cont (f 1) s1 b1) {old : SupV} {e0 : Int} (hl : loadS s0 b0 s1 b1 = (old, e0))
    {s s' : SupV} (hs : s' = { s with events := (if e0 = 0 then old.events else s.events) + 1 }) (hm : MayS s')
    (hk : ∀ a' w', Dr p a' F w0 w' X → (a'.Hold n fun j => if j = (s'.events % 2).toNat then strB (encS s') else f j) → Φ (.returned (.tuple #[.agg (supC s'), .int .i64 0])) w') : Calls Try.prog 37 #[.pointer (some ⟨p, 0, none⟩), .agg (supC s)] w Φ := by
  refine (slots_Next_calls (R := fun v w' => ∃ a', v = .tuple #[.agg (supC s'), .int .i64 0] ∧ Dr p a' F w0 w' X ∧ a'.Hold n fun j => if j = (s'.events % 2).toNat then strB (encS s') else f j) ?_).mono fun e w' ⟨v, he, a', hv, hd, hH⟩ => by rw [he, hv]; exact hk a' w' hd hH
  unfold slots_Next
  refine Dr.alloc h fun k3 w1 h1 => Dr.alloc h1 fun k4 w2 h2 => Join.intro fun J hJ => ?_
  have h2 : Dr p a F w0 w2 (blk k4 (supC sup0) 58 :: blk k3 (supC s) 58 :: X) := h2
  have main : ∀ w3, Dr p a F w0 w3 (blk k3 (supC { s with events := s'.events - 1 }) 58 :: blk k4 (supC sup0) 58 :: X) → J [] w3 := by
    intro w3 h3
    refine hJ _ _ ⟨rfl, s'.events - 1, h3.under.ld List.mem_cons_self rfl, ?_⟩
    have hw : IntKind.u64.wrap (s'.events - 1 + 1) = s'.events := by rw [wrapU64]; have := hm.events; omega
    rw [hw]
    refine Dr.st1 (c' := supC s') h3 (show 1 < 10 by decide) (by subst hs; rfl) rfl fun w4 h4 => rd10 h4.under (a := s') (k := k3) (t := 58) (by first | exact List.Mem.head _ | exact List.Mem.tail _ (List.Mem.head _) | exact List.Mem.tail _ (List.Mem.tail _ (List.Mem.head _)) | exact List.Mem.tail _ (List.Mem.tail _ (List.Mem.tail _ (List.Mem.head _))) | exact List.Mem.tail _ (List.Mem.tail _ (List.Mem.tail _ (List.Mem.tail _ (List.Mem.head _)))) | exact List.Mem.tail _ (List.Mem.tail _ (List.Mem.tail _ (List.Mem.tail _ (List.Mem.tail _ (List.Mem.head _))))) | exact List.Mem.tail _ (List.Mem.tail _ (List.Mem.tail _ (List.Mem.tail _ (List.Mem.tail _ (List.Mem.tail _ (List.Mem.head _)))))) | exact List.Mem.tail _ (List.Mem.tail _ (List.Mem.tail _ (List.Mem.tail _ (List.Mem.tail _ (List.Mem.tail _ (List.Mem.tail _ (List.Mem.head _))))))) | exact List.Mem.tail _ (List.Mem.tail _ (List.Mem.tail _ (List.Mem.tail _ (List.Mem.tail _ (List.Mem.tail _ (List.Mem.tail _ (List.Mem.tail _ (List.Mem.head _)))))))) | exact List.Mem.tail _ (List.Mem.tail _ (List.Mem.tail _ (List.Mem.tail _ (List.Mem.tail _ (List.Mem.tail _ (List.Mem.tail _ (List.Mem.tail _ (List.Mem.tail _ (List.Mem.head _))))))))) | exact List.Mem.tail _ (List.Mem.tail _ (List.Mem.tail _ (List.Mem.tail _ (List.Mem.tail _ (List.Mem.tail _ (List.Mem.tail _ (List.Mem.tail _ (List.Mem.tail _ (List.Mem.tail _ (List.Mem.head _)))))))))) | exact List.Mem.tail _ (List.Mem.tail _ (List.Mem.tail _ (List.Mem.tail _ (List.Mem.tail _ (List.Mem.tail _ (List.Mem.tail _ (List.Mem.tail _ (List.Mem.tail _ (List.Mem.tail _ (List.Mem.tail _ (List.Mem.head _)))))))))))) ?_
    refine saved_u (s := s') h4 hh hn hm fun a' w5 h5 hH => ⟨_, rfl, no rfl ?_⟩
    refine rd10 h5.under (a := s') (k := k3) (t := 58) (by first | exact List.Mem.head _ | exact List.Mem.tail _ (List.Mem.head _) | exact List.Mem.tail _ (List.Mem.tail _ (List.Mem.head _)) | exact List.Mem.tail _ (List.Mem.tail _ (List.Mem.tail _ (List.Mem.head _))) | exact List.Mem.tail _ (List.Mem.tail _ (List.Mem.tail _ (List.Mem.tail _ (List.Mem.head _)))) | exact List.Mem.tail _ (List.Mem.tail _ (List.Mem.tail _ (List.Mem.tail _ (List.Mem.tail _ (List.Mem.head _))))) | exact List.Mem.tail _ (List.Mem.tail _ (List.Mem.tail _ (List.Mem.tail _ (List.Mem.tail _ (List.Mem.tail _ (List.Mem.head _)))))) | exact List.Mem.tail _ (List.Mem.tail _ (List.Mem.tail _ (List.Mem.tail _ (List.Mem.tail _ (List.Mem.tail _ (List.Mem.tail _ (List.Mem.head _))))))) | exact List.Mem.tail _ (List.Mem.tail _ (List.Mem.tail _ (List.Mem.tail _ (List.Mem.tail _ (List.Mem.tail _ (List.Mem.tail _ (List.Mem.tail _ (List.Mem.head _)))))))) | exact List.Mem.tail _ (List.Mem.tail _ (List.Mem.tail _ (List.Mem.tail _ (List.Mem.tail _ (List.Mem.tail _ (List.Mem.tail _ (List.Mem.tail _ (List.Mem.tail _ (List.Mem.head _))))))))) | exact List.Mem.tail _ (List.Mem.tail _ (List.Mem.tail _ (List.Mem.tail _ (List.Mem.tail _ (List.Mem.tail _ (List.Mem.tail _ (List.Mem.tail _ (List.Mem.tail _ (List.Mem.tail _ (List.Mem.head _)))))))))) | exact List.Mem.tail _ (List.Mem.tail _ (List.Mem.tail _ (List.Mem.tail _ (List.Mem.tail _ (List.Mem.tail _ (List.Mem.tail _ (List.Mem.tail _ (List.Mem.tail _ (List.Mem.tail _ (List.Mem.tail _ (List.Mem.head _)))))))))))) ?_
    exact Dr.st10 (x := sup0) (y := s') (h5.perm (.swap _ _ _)) fun w6 h6 => rd10 h6.under (a := s') (k := k4) (t := 58) (by first | exact List.Mem.head _ | exact List.Mem.tail _ (List.Mem.head _) | exact List.Mem.tail _ (List.Mem.tail _ (List.Mem.head _)) | exact List.Mem.tail _ (List.Mem.tail _ (List.Mem.tail _ (List.Mem.head _))) | exact List.Mem.tail _ (List.Mem.tail _ (List.Mem.tail _ (List.Mem.tail _ (List.Mem.head _)))) | exact List.Mem.tail _ (List.Mem.tail _ (List.Mem.tail _ (List.Mem.tail _ (List.Mem.tail _ (List.Mem.head _))))) | exact List.Mem.tail _ (List.Mem.tail _ (List.Mem.tail _ (List.Mem.tail _ (List.Mem.tail _ (List.Mem.tail _ (List.Mem.head _)))))) | exact List.Mem.tail _ (List.Mem.tail _ (List.Mem.tail _ (List.Mem.tail _ (List.Mem.tail _ (List.Mem.tail _ (List.Mem.tail _ (List.Mem.head _))))))) | exact List.Mem.tail _ (List.Mem.tail _ (List.Mem.tail _ (List.Mem.tail _ (List.Mem.tail _ (List.Mem.tail _ (List.Mem.tail _ (List.Mem.tail _ (List.Mem.head _)))))))) | exact List.Mem.tail _ (List.Mem.tail _ (List.Mem.tail _ (List.Mem.tail _ (List.Mem.tail _ (List.Mem.tail _ (List.Mem.tail _ (List.Mem.tail _ (List.Mem.tail _ (List.Mem.head _))))))))) | exact List.Mem.tail _ (List.Mem.tail _ (List.Mem.tail _ (List.Mem.tail _ (List.Mem.tail _ (List.Mem.tail _ (List.Mem.tail _ (List.Mem.tail _ (List.Mem.tail _ (List.Mem.tail _ (List.Mem.head _)))))))))) | exact List.Mem.tail _ (List.Mem.tail _ (List.Mem.tail _ (List.Mem.tail _ (List.Mem.tail _ (List.Mem.tail _ (List.Mem.tail _ (List.Mem.tail _ (List.Mem.tail _ (List.Mem.tail _ (List.Mem.tail _ (List.Mem.head _)))))))))))) ⟨a', rfl, h6.dropX.dropX, hH⟩
  refine load_u (s := old) (e := e0) h2 hh hn hs0 hs1 hl fun w5 h5 => ⟨_, _, _, _, _, _, _, _, _, _, _, rfl, ?_⟩
  refine Dr.alloc h5 fun k6 w6 h6 => Dr.st10 (x := sup0) (y := old) h6 fun w7 h7 => ⟨fun hz => ?_, fun hz => ?_⟩
  · have hz : e0 = 0 := by simpa using hz
    refine ⟨old.events, h7.under.ld List.mem_cons_self rfl, ?_⟩
    refine Dr.st1 (c' := supC { s with events := old.events }) (h7.dropX.perm (.swap _ _ _)) (show 1 < 10 by decide) rfl rfl fun w8 h8 => main w8 ?_
    have : s'.events - 1 = old.events := by rw [hs]; simp [hz]
    rw [this]; exact h8
  · have hz : e0 ≠ 0 := by simpa using hz
    refine main w7 ?_
    have : s'.events - 1 = s.events := by rw [hs]; simp [hz]
    rw [this]; exact h7.dropX.perm (.swap _ _ _)
end
/-- the newest one lies in slot x -/
theorem load_par {f : Nat → ByteArray} {x : Nat} (hx : x = 0 ∨ x = 1) {c d : SupV} {db : Bool} (hc : Cont (f x) c true) (hd : Cont (f (1 - x)) d db) (hlt : db = true → d.events < c.events) :
    ∃ s0 b0 s1 b1, Cont (f 0) s0 b0 ∧ Cont (f 1) s1 b1 ∧ loadS s0 b0 s1 b1 = (c, 0) ∧ ((x = 0 ∧ s0 = c ∧ b0 = true ∧ s1 = d ∧ b1 = db) ∨ (x = 1 ∧ s1 = c ∧ b1 = true ∧ s0 = d ∧ b0 = db)) := by
  rcases hx with rfl | rfl
  · refine ⟨c, true, d, db, hc, hd, ?_, .inl ⟨rfl, rfl, rfl, rfl, rfl⟩⟩
    have : newerS c true d db = false := by
      unfold newerS
      cases db
      · rfl
      · have := hlt rfl
        rw [decide_eq_false (by omega)]; rfl
    unfold loadS
    rw [this]; rfl
  · refine ⟨d, db, c, true, hd, hc, ?_, .inr ⟨rfl, rfl, rfl, rfl, rfl⟩⟩
    have : newerS d db c true = true := by
      unfold newerS
      cases db
      · rfl
      · have := hlt rfl
        rw [decide_eq_true (by omega)]; rfl
    unfold loadS
    rw [if_pos this]
theorem AD.Hold.spoil {a : AD} {n : Nat} {f : Nat → ByteArray} (h : a.Hold n f) {x : Nat} (hx : x < n) : SlotAt (a.spoil (x : Int)) (x : Int) sup0 false ∧ ∀ (y : Nat), y < n → y ≠ x → ∀ {s : SupV} {b : Bool}, Cont (f y) s b → SlotAt (a.spoil (x : Int)) (y : Int) s b := by
  have hm := h.on.may (i := (x : Int)) (by omega)
  have hon := h.on.spoil (x : Int)
  have hr : ∀ y : Nat, y < n → (a.spoil (x : Int)).read (y : Int) = if y = x then (noB, 41) else (f y, 0) := fun y hy => by
    rw [read_on hon (by omega), AD.spoil_of hm]
    show (if (if (y : Int).toNat = (x : Int).toNat then true else a.spoilt (y : Int).toNat) = true then (noB, 41) else (AD.top { a with spoilt := _ } (y : Int).toNat, 0)) = _
    rw [Int.toNat_natCast, Int.toNat_natCast]
    by_cases e : y = x
    · rw [if_pos e, if_pos rfl, if_pos e]
    · rw [if_neg e, if_neg (by rw [h.sp]; decide), if_neg e]
      show (a.top y, (0 : Int)) = _
      rw [AD.top_none (h.pend y), h.safe y hy]
  refine ⟨.none (by rw [hr x hx, if_pos rfl]; decide), fun y hy hne s b hc => ?_⟩
  have h1 := hr y hy
  rw [if_neg hne] at h1
  cases hc with
  | bad hs hb => exact .bad _ h1 hs hb
  | good s he hm => exact .good s (by rw [h1, he]) hm
end Go.Proofs.Ytdppllkjibfjcaa
