import Derived.Laws.StructEq
import Derived.Test.YtbecjmfcppginaaGreatM10
import Derived.Test.YtbecjmfcppginaaGreatM11
section
/-! ring: Append. -/
namespace Go.Proofs.YtbecjmfcppginaaGreat
open Go.Sh Go.RowKit
set_option linter.unusedVariables false
set_option linter.unusedSimpArgs false
set_option maxRecDepth 20000
set_option maxHeartbeats 1000000
def loadOps (at_ : Int) (L : List (List UInt8)) : Nat → List Op
  | 0 => []
  | i + 1 => loadOps at_ L i ++ [some (at_ + 1 + (i : Int), strB (L.getD i []))]
def appOps (S n : Nat) (row : Int) (l : List RP) : List Op :=
  loadOps (4 + 41 * ((n % S : Nat) : Int)) (datas l) l.length ++ [none, some (4 + 41 * ((n % S : Nat) : Int), strB (headR n row l (sumR l))), none]
section
variable {q r S t n : Nat} {a : AD} {F : List Nat} {w0 w : World} {X : List A}
theorem append_busy (h : Dr q a F w0 w X) (hm : blk r (rgC q S t n) 87 ∈ X) (hb : leftF S t n < 1) (row : Int) (p : Option Addr) (m c : Nat) :
    Calls Tryz.prog 24 #[.pointer (some ⟨r, 0, none⟩), .int .i64 row, .slice p m c] w fun e w' => e = .returned (.tuple #[.int .u64 0, .int .i64 130]) ∧ Dr q a F w0 w' X := by
  refine (ring_Ring_Append_calls (R := fun v w' => v = .tuple #[.int .u64 0, .int .i64 130] ∧ Dr q a F w0 w' X) ?_).mono fun e w' ⟨v, he, hv, h⟩ => ⟨by rw [he, hv], h⟩
  unfold ring_Ring_Append
  exact (left_spec h hm).mono fun e w1 ⟨he1, hx1⟩ => ⟨_, he1, dec_t fun _ => ⟨rfl, h.quiet hx1⟩, dec_f fun hn => absurd hb hn⟩
theorem Dr.intoT {Y : List A} {K : Prop} (h : Dr q a F w0 w X) (hK : ∀ Γ, T F w0 w (X ++ Γ) → (∀ w' Y, T F w0 w' (Y ++ (X ++ Γ)) → Dr q a F w0 w' (Y ++ X)) → K) : K := by
  obtain ⟨D, hD, hA, hT⟩ := h
  exact hK _ hT fun w' Y h' => ⟨D, hD, hA, by rw [List.append_assoc]; exact h'⟩
theorem parts_under {w' : World} {Δ Γ : List A} (h' : T F w0 w' (Δ ++ (X ++ Γ))) : T F w0 w' (Δ ++ X) := by
  rw [← List.append_assoc] at h'
  exact T.dropAll (h'.swap List.perm_append_comm)
theorem append_bad_p (h : Dr q a F w0 w X) (hm : blk r (rgC q S t n) 87 ∈ X) (hb : ¬ leftF S t n < 1) {row : Int} {p : Option Addr} {c : Nat} {l : List RP} (hp : ∀ (w' : World) (Δ : List A), T F w0 w' (Δ ++ X) → partsAt w' p l) (hl : l.length ≤ 1000000) (hn : ¬ (PlacedR row l ∧ LoadedR l)) :
    Calls Tryz.prog 24 #[.pointer (some ⟨r, 0, none⟩), .int .i64 row, .slice p l.length c] w fun e w' => e = .returned (.tuple #[.int .u64 0, .int .i64 1]) ∧ Dr q a F w0 w' X := by
  refine (ring_Ring_Append_calls (R := fun v w' => v = .tuple #[.int .u64 0, .int .i64 1] ∧ Dr q a F w0 w' X) ?_).mono fun e w' ⟨v, he, hv, h⟩ => ⟨by rw [he, hv], h⟩
  unfold ring_Ring_Append
  refine (left_spec h hm).mono fun e w1 ⟨he1, hx1⟩ => ⟨_, he1, dec_t fun hh => absurd hh hb, dec_f fun _ => ?_⟩
  have h1 := h.quiet hx1
  refine ⟨_, rfl, (n : Int), by rw [addr_add]; exact h1.under.ld (c := rgC q S t n) hm rfl, ?_⟩
  refine Dr.intoT (Y := []) h1 fun Γ hT hback => ?_
  exact (rencode_bad_p (seq := n) (row := row) hT (fun w' Δ h' => hp w' Δ (parts_under h')) hl hn).mono fun e w2 ⟨he2, h2⟩ => ⟨_, _, _, _, _, he2, yes rfl ⟨rfl, hback w2 [] h2⟩⟩
theorem append_bad (h : Dr q a F w0 w X) (hm : blk r (rgC q S t n) 87 ∈ X) (hb : ¬ leftF S t n < 1) {row : Int} {g : Option Nat} {c : Nat} {l : List RP} (hp : rowP 71 3 g l.length c (rpL l) ∈ X) (hl : l.length ≤ 1000000) (hn : ¬ (PlacedR row l ∧ LoadedR l)) :
    Calls Tryz.prog 24 #[.pointer (some ⟨r, 0, none⟩), .int .i64 row, .slice (ptr g) l.length c] w fun e w' => e = .returned (.tuple #[.int .u64 0, .int .i64 1]) ∧ Dr q a F w0 w' X := append_bad_p h hm hb (fun w' Δ h' => (T.parts h' (List.mem_append_right _ hp)).1) hl hn
end
end Go.Proofs.YtbecjmfcppginaaGreat
end
section
/-! ring: Append of a record that may be. -/
namespace Go.Proofs.YtbecjmfcppginaaGreat
open Go.Sh Go.RowKit
set_option linter.unusedVariables false
set_option linter.unusedSimpArgs false
set_option maxRecDepth 20000
set_option maxHeartbeats 1000000
section
variable {q r S t n : Nat} {a : AD} {F : List Nat} {w0 w : World} {X : List A}
theorem append_good_p (h : Dr q a F w0 w (blk r (rgC q S t n) 87 :: X)) {N : Nat} (hF : a.Few N) (hN : N + 100 ≤ 1000000) (h1S : 1 ≤ S) (h2S : S ≤ 1000000) (hs : n < 2 ^ 64) (hb : ¬ leftF S t n < 1) {row : Int} {p : Option Addr} {c : Nat} {l : List RP} (hp : ∀ (w' : World) (Δ : List A), T F w0 w' (Δ ++ X) → partsAt w' p l) (hP : PlacedR row l) (hL : LoadedR l) :
    Calls Tryz.prog 24 #[.pointer (some ⟨r, 0, none⟩), .int .i64 row, .slice p l.length c] w fun e w' => e = .returned (.tuple #[.int .u64 (if (runS a (appOps S n row l)).2 = 0 then (n : Int) else 0), .int .i64 (runS a (appOps S n row l)).2]) ∧ Dr q (runS a (appOps S n row l)).1 F w0 w' (blk r (rgC q S t (if (runS a (appOps S n row l)).2 = 0 then (n + 1) % 2 ^ 64 else n)) 87 :: X) := by
  refine (ring_Ring_Append_calls (R := fun v w' => v = .tuple #[.int .u64 (if (runS a (appOps S n row l)).2 = 0 then (n : Int) else 0), .int .i64 (runS a (appOps S n row l)).2] ∧ Dr q (runS a (appOps S n row l)).1 F w0 w' (blk r (rgC q S t (if (runS a (appOps S n row l)).2 = 0 then (n + 1) % 2 ^ 64 else n)) 87 :: X)) ?_).mono fun e w' ⟨v, he, hv, h⟩ => ⟨by rw [he, hv], h⟩
  unfold ring_Ring_Append
  have hl40 := hP.2.2.2.1
  refine (left_spec h List.mem_cons_self).mono fun e w1 ⟨he1, hx1⟩ => ⟨_, he1, dec_t fun hh => absurd hh hb, dec_f fun _ => ?_⟩
  have h1 := h.quiet hx1
  refine ⟨_, rfl, (n : Int), by rw [addr_add]; exact h1.under.ld (c := rgC q S t n) List.mem_cons_self rfl, ?_⟩
  refine Dr.intoT (Y := []) h1 fun Γ hT hback => ?_
  refine (rencode_good_p (seq := n) (row := row) hT hs (fun w' Δ h' => hp w' (Δ ++ [_]) (by rw [List.append_assoc]; exact parts_under h')) hP hL).mono fun e w2 ⟨gs, cs, he2, hT2⟩ => ⟨_, _, _, _, _, he2, no rfl ?_⟩
  have h2 : Dr q a F w0 w2 (rowP 9 1 gs l.length cs (strV (datas l)) :: blk r (rgC q S t n) 87 :: X) := hback w2 [_] hT2
  refine (first_spec h2 (List.mem_cons_of_mem _ List.mem_cons_self) h1S h2S n).mono fun e w3 ⟨he3, hx3⟩ => ⟨_, he3, ?_⟩
  have h3 := h2.quiet hx3
  have hap : appOps S n row l = loadOps (4 + 41 * ((n % S : Nat) : Int)) (datas l) l.length ++ [none, some (4 + 41 * ((n % S : Nat) : Int), strB (headR n row l (sumR l))), none] := rfl
  obtain ⟨at_, hat, hat0, hat1⟩ : ∃ x : Int, 4 + 41 * ((n % S : Nat) : Int) = x ∧ 0 ≤ x ∧ x ≤ 50000000 := ⟨_, rfl, by omega, by have : n % S < S := Nat.mod_lt _ (by omega); omega⟩
  rw [hat] at hap
  rw [hat]
  refine ⟨fun vs w' => ∃ (i : Nat) (g : Option Nat) (cap : Nat) (ls : List Stp) (Y : List A), vs = [.slice (ptr g) i cap, .int .i64 (i : Int)] ∧ i ≤ l.length ∧ ls.length = i ∧ ls.map Stp.op = loadOps at_ (datas l) i ∧ (∀ s ∈ ls, ∀ x ∈ s.own q, x ∈ Y) ∧ Dr q a F w0 w' (rowP 79 1 g i cap (ls.map (Stp.val q)) :: (Y ++ (rowP 9 1 gs l.length cs (strV (datas l)) :: blk r (rgC q S t n) 87 :: X))), fun vs _ => match vs with | [_, .int _ i] => (l.length - i).toNat | _ => 0, ⟨0, none, 0, [], [], rfl, by omega, rfl, rfl, fun s hs => by simp at hs, Dr.nilRow h3 _ _⟩, ?_⟩
  rintro vs w4 ⟨i, g4, c4, ls, Y, rfl, hi, hli, hlo, hown, h4⟩
  have mr : ∀ {y : A}, y ∈ (blk r (rgC q S t n) 87 :: X) → y ∈ (rowP 79 1 g4 i c4 (ls.map (Stp.val q)) :: (Y ++ (rowP 9 1 gs l.length cs (strV (datas l)) :: blk r (rgC q S t n) 87 :: X))) := fun hy => List.mem_cons_of_mem _ (List.mem_append_right _ (List.mem_cons_of_mem _ hy))
  refine ⟨_, _, _, _, rfl, dec_t fun hlt => ?_, dec_f fun hge => ?_⟩
  · have hlt : i < l.length := by omega
    obtain ⟨bs, rfl, hcs⟩ := T.row1 (i := i) (v := .string (strB ((datas l).getD i []))) h4.under (List.mem_cons_of_mem _ (List.mem_append_right _ List.mem_cons_self)) (by
      unfold strV; rw [List.getElem?_map, List.getD_eq_getElem?_getD, List.getElem?_eq_getElem (by rw [datas_len]; exact hlt)]; rfl)
    refine ⟨_, rfl, by omega, by omega, _, by rw [Int.toNat_natCast]; exact hcs, _, rfl, _, h4.under.ld (c := rgC q S t n) (mr List.mem_cons_self) rfl, ?_⟩
    have e41 : IntKind.i64.wrap (IntKind.i64.wrap (at_ + 1) + (i : Int)) = at_ + 1 + (i : Int) := by
      rw [wrap64 (at_ + 1) (by omega) (by omega), wrap64 _ (by omega) (by omega)]
    rw [e41]
    refine (written_spec h4 (at_ + 1 + (i : Int)) (strB ((datas l).getD i []))).mono fun e w5 ⟨k3, k4, k5, he5, h5⟩ => ⟨_, he5, ?_⟩
    refine Dr.lit h5 (lit1 _ _ _) fun k22 w6 h6 => ?_
    generalize hst : Stp.wr (at_ + 1 + (i : Int)) (strB ((datas l).getD i [])) k3 k4 k5 = st at *
    have h6 : Dr q a F w0 w6 (blk k22 #[st.val q] 79 :: (st.own q ++ (rowP 79 1 g4 i c4 (ls.map (Stp.val q)) :: (Y ++ (rowP 9 1 (some bs) l.length cs (strV (datas l)) :: blk r (rgC q S t n) 87 :: X))))) := by subst hst; exact h6
    obtain ⟨g7, c7, w7, hr7, h7⟩ := Dr.app (Δ := blk k22 #[st.val q] 79 :: (st.own q ++ (Y ++ (rowP 9 1 (some bs) l.length cs (strV (datas l)) :: blk r (rgC q S t n) 87 :: X)))) h6 List.mem_cons_self (by subst hst; exact .tail (.tail (.tail (.tail .head)))) (fun u hu => by
      have hu : u ∈ [st.val q] := hu
      rw [List.mem_singleton.1 hu]; exact Stp.one _ _) (by show i + 1 ≤ 1000000; omega)
    have em : ls.map (Stp.val q) ++ (#[st.val q] : Array Value).toList = (ls ++ [st]).map (Stp.val q) := by rw [List.map_append]; rfl
    rw [em] at h7
    refine ⟨_, _, _, w7, by subst hst; exact hr7, ⟨i + 1, g7, c7, ls ++ [st], blk k22 #[st.val q] 79 :: (st.own q ++ Y), ?_, by omega, by rw [List.length_append, hli]; rfl, ?_, ?_, by rw [List.cons_append, List.append_assoc]; exact h7⟩, ?_⟩
    · rw [wrap64 _ (by omega) (by omega)]; rfl
    · rw [List.map_append, hlo, ← hst]; rfl
    · intro s hs x hx
      rcases List.mem_append.1 hs with hs | hs
      · exact List.mem_cons_of_mem _ (List.mem_append_right _ (hown s hs x hx))
      · rw [List.mem_singleton.1 hs] at hx
        exact List.mem_cons_of_mem _ (List.mem_append_left _ hx)
    · show ((l.length : Int) - IntKind.i64.wrap ((i : Int) + 1)).toNat < ((l.length : Int) - (i : Int)).toNat
      rw [wrap64 _ (by omega) (by omega)]; omega
  · have hie : i = l.length := by omega
    subst hie
    have rd : ∀ w', (∃ a' Y, Dr q a' F w0 w' (Y ++ blk r (rgC q S t n) 87 :: X)) → w'.cell? ⟨r, 0, none⟩ = some (.pointer (some ⟨q, 0, none⟩)) := fun w' ⟨a', Y, h'⟩ => h'.under.ld (c := rgC q S t n) (List.mem_append_right _ List.mem_cons_self) rfl
    have hd := Dr.rdrew h4
    have hz : ∀ {w' : World} {a' : AD} {Y' : List A} {y1 : A}, Dr q a' F w0 w' (Y' ++ (y1 :: (Y ++ (rowP 9 1 gs l.length cs (strV (datas l)) :: blk r (rgC q S t n) 87 :: X)))) → ∃ a' Y, Dr q a' F w0 w' (Y ++ blk r (rgC q S t n) 87 :: X) := fun {w' a' Y' y1} hh => ⟨a', Y' ++ (y1 :: (Y ++ [rowP 9 1 gs l.length cs (strV (datas l))])), by simpa using hh⟩
    refine ⟨fun w' => ∃ a' Y, Dr q a' F w0 w' (Y ++ blk r (rgC q S t n) 87 :: X), hz (Y' := []) hd, _, rfl, _, rd, _, rfl, _, rd, ?_⟩
    refine (written_spec hd at_ (strB (headR n row l (sumR l)))).mono fun e w8 ⟨k3, k4, k5, he8, h8⟩ => ⟨_, he8, hz h8, _, rfl, _, rd, ?_⟩
    refine Dr.lit h8 (lit3 _ _ _ _ _ _ _ _ _) fun k77 w9 h9 => ⟨hz (Y' := _ :: (Stp.wr at_ (strB (headR n row l (sumR l))) k3 k4 k5).own q) h9, ?_⟩
    generalize hst : Stp.wr at_ (strB (headR n row l (sumR l))) k3 k4 k5 = st at *
    have h9 : Dr q a F w0 w9 (blk k77 #[Stp.fl.val q, st.val q, Stp.fl.val q] 79 :: (st.own q ++ (rowP 79 1 g4 ls.length c4 (ls.map (Stp.val q)) :: (Y ++ (rowP 9 1 gs l.length cs (strV (datas l)) :: blk r (rgC q S t n) 87 :: X))))) := by subst hst; rw [hli]; exact h9
    obtain ⟨g11, c11, w10, hr10, h10⟩ := Dr.app (Δ := blk k77 #[Stp.fl.val q, st.val q, Stp.fl.val q] 79 :: (st.own q ++ (Y ++ (rowP 9 1 gs l.length cs (strV (datas l)) :: blk r (rgC q S t n) 87 :: X)))) h9 List.mem_cons_self (by subst hst; exact .tail (.tail (.tail (.tail .head)))) (fun u hu => by
      have hu : u ∈ [Stp.fl.val q, st.val q, Stp.fl.val q] := hu
      simp only [List.mem_cons, List.not_mem_nil, or_false] at hu
      rcases hu with rfl | rfl | rfl <;> exact Stp.one _ _) (by show ls.length + 3 ≤ 1000000; omega)
    have em : ls.map (Stp.val q) ++ (#[Stp.fl.val q, st.val q, Stp.fl.val q] : Array Value).toList = (ls ++ [Stp.fl, st, Stp.fl]).map (Stp.val q) := by rw [List.map_append]; rfl
    rw [em] at h10
    have hl3 : (ls ++ [Stp.fl, st, Stp.fl]).length = ls.length + 3 := by rw [List.length_append]; rfl
    have hop : (ls ++ [Stp.fl, st, Stp.fl]).map Stp.op = appOps S n row l := by rw [List.map_append, hlo, hap, ← hst]; rfl
    have fold : ∀ {w' : World} {a' : AD} {y1 y2 : A}, Dr q a' F w0 w' (y1 :: y2 :: (st.own q ++ (Y ++ (rowP 9 1 gs l.length cs (strV (datas l)) :: blk r (rgC q S t n) 87 :: X)))) → Dr q a' F w0 w' ((y1 :: y2 :: (st.own q ++ (Y ++ [rowP 9 1 gs l.length cs (strV (datas l))]))) ++ blk r (rgC q S t n) 87 :: X) := fun hh => by simpa using hh
    refine ⟨_, _, _, w10, by subst hst; rw [hli] at hr10; exact hr10, ⟨a, _, fold h10⟩, ?_⟩
    have h10 : Dr q a F w0 w10 (rowP 79 1 g11 (ls.length + 3) c11 ((ls ++ [Stp.fl, st, Stp.fl]).map (Stp.val q)) :: blk k77 #[Stp.fl.val q, st.val q, Stp.fl.val q] 79 :: (st.own q ++ (Y ++ (rowP 9 1 gs l.length cs (strV (datas l)) :: blk r (rgC q S t n) 87 :: X)))) := h10
    rw [← hl3] at h10
    have hsp := steps_spec h10 List.mem_cons_self (fun s hs x hx => by
      rcases List.mem_append.1 hs with hs | hs
      · exact List.mem_cons_of_mem _ (List.mem_cons_of_mem _ (List.mem_append_right _ (List.mem_append_left _ (hown s hs x hx))))
      · simp only [List.mem_cons, List.not_mem_nil, or_false] at hs
        rcases hs with rfl | rfl | rfl
        · simp [Stp.own] at hx
        · exact List.mem_cons_of_mem _ (List.mem_cons_of_mem _ (List.mem_append_left _ hx))
        · simp [Stp.own] at hx) hF (by rw [hl3]; omega)
    rw [hop, hl3, hli] at hsp
    refine hsp.mono fun e w11 ⟨he11, h11⟩ => ⟨_, he11, ⟨_, _, fold h11⟩, ?_⟩
    have h12 := Dr.back (fold h11)
    refine ⟨bne_t fun hne => ?_, bne_f fun heq => ?_⟩
    · rw [if_neg hne, if_neg hne]; exact ⟨rfl, h12⟩
    · rw [if_pos heq, if_pos heq]
      refine ⟨_, rfl, (n : Int), by rw [addr_add]; exact h12.under.ld (c := rgC q S t n) List.mem_cons_self rfl, _, rfl, ?_⟩
      have eW : IntKind.u64.wrap ((n : Int) + 1) = (((n + 1) % 2 ^ 64 : Nat) : Int) := by rw [wrapU64]; omega
      rw [eW, addr_add]
      exact Dr.st1 (c' := rgC q S t ((n + 1) % 2 ^ 64)) h12 (show 0 + 3 < 4 by decide) rfl rfl fun w13 h13 => ⟨by rw [heq], h13⟩
theorem append_good (h : Dr q a F w0 w (blk r (rgC q S t n) 87 :: X)) {N : Nat} (hF : a.Few N) (hN : N + 100 ≤ 1000000) (h1S : 1 ≤ S) (h2S : S ≤ 1000000) (hs : n < 2 ^ 64) (hb : ¬ leftF S t n < 1) {row : Int} {g : Option Nat} {c : Nat} {l : List RP} (hp : rowP 71 3 g l.length c (rpL l) ∈ X) (hP : PlacedR row l) (hL : LoadedR l) :
    Calls Tryz.prog 24 #[.pointer (some ⟨r, 0, none⟩), .int .i64 row, .slice (ptr g) l.length c] w fun e w' => e = .returned (.tuple #[.int .u64 (if (runS a (appOps S n row l)).2 = 0 then (n : Int) else 0), .int .i64 (runS a (appOps S n row l)).2]) ∧ Dr q (runS a (appOps S n row l)).1 F w0 w' (blk r (rgC q S t (if (runS a (appOps S n row l)).2 = 0 then (n + 1) % 2 ^ 64 else n)) 87 :: X) := append_good_p h hF hN h1S h2S hs hb (fun w' Δ h' => (T.parts h' (List.mem_append_right _ hp)).1) hP hL
end
end Go.Proofs.YtbecjmfcppginaaGreat
end
section
/-! ring: a head that was written is read back. -/
namespace Go.Proofs.YtbecjmfcppginaaGreat
open Go.Sh Go.RowKit
set_option linter.unusedVariables false
set_option linter.unusedSimpArgs false
set_option maxRecDepth 20000
set_option maxHeartbeats 1000000
theorem partOf_plB {x : RP} (h : 0 ≤ x.col ∧ x.col < 10 ∧ 0 ≤ x.off ∧ x.off < 4) : partOf (plB x) = { x with data := [] } := by
  have e : (plB x).toNat = 4 * x.col.toNat + x.off.toNat := by
    unfold plB
    rw [UInt8.toNat_ofNat']
    omega
  unfold partOf
  rw [e]
  have e1 : ((((4 * x.col.toNat + x.off.toNat) / 4 : Nat)) : Int) = x.col := by omega
  have e2 : ((((4 * x.col.toNat + x.off.toNat) % 4 : Nat)) : Int) = x.off := by omega
  rw [e1, e2]
theorem decH_magic {b : List UInt8} (h : b.take 4 ≠ magJ) : (decH b).2 ≠ 0 := by
  unfold decH
  split
  · decide
  · split
    · decide
    · first | decide | (rw [if_pos h]; decide)
end Go.Proofs.YtbecjmfcppginaaGreat
end
section
/-! ring: what Append writes is read back. -/
namespace Go.Proofs.YtbecjmfcppginaaGreat
open Go.Sh Go.RowKit
set_option linter.unusedVariables false
set_option linter.unusedSimpArgs false
set_option maxRecDepth 20000
set_option maxHeartbeats 1000000
def bare (l : List RP) : List RP := l.map fun x => { x with data := [] }
theorem bare_len (l : List RP) : (bare l).length = l.length := List.length_map ..
theorem bare_plB (l : List RP) : (bare l).map plB = l.map plB := by unfold bare; rw [List.map_map]; rfl
theorem bare_head (seq : Nat) (row : Int) (l : List RP) (sum : B32) : headR seq row (bare l) sum = headR seq row l sum := by
  unfold headR; rw [bare_plB, bare_len]
theorem bare_placed {row : Int} {l : List RP} (h : PlacedR row l) : PlacedR row (bare l) := by
  obtain ⟨h1, h2, h3, h4, h5, h6⟩ := h
  refine ⟨h1, h2, by rw [bare_len]; exact h3, by rw [bare_len]; exact h4, fun x hx => ?_, ?_⟩
  · obtain ⟨y, hy, rfl⟩ := List.mem_map.1 hx
    exact h5 y hy
  · unfold bare; rw [List.map_map]; exact h6
theorem partOf_map {l : List RP} (h : ∀ x ∈ l, 0 ≤ x.col ∧ x.col < 10 ∧ 0 ≤ x.off ∧ x.off < 4) : (l.map plB).map partOf = bare l := by
  unfold bare; rw [List.map_map]
  exact List.map_congr_left fun x hx => partOf_plB (h x hx)
theorem withD_bare {l : List RP} : withD (bare l) (datas l) = l := by
  apply List.ext_getElem?; intro j
  rw [withD, fillN, List.getElem?_mapIdx, bare, List.getElem?_map, List.length_map]
  by_cases hj : j < l.length
  · rw [List.getElem?_eq_getElem hj]
    simp only [Option.map_some, if_pos hj]
    rw [List.getD_eq_getElem?_getD, datas, List.getElem?_map, List.getElem?_eq_getElem hj]; rfl
  · rw [List.getElem?_eq_none (by omega)]; rfl
theorem drop_at {A B : List UInt8} {n : Nat} (h : A.length = n) : (A ++ B).drop n = B := by subst h; exact List.drop_left
theorem take_at {A B : List UInt8} {n : Nat} (h : A.length = n) : (A ++ B).take n = A := by subst h; exact List.take_left
theorem head_parts (seq : Nat) (row : Int) (l : List RP) (sum : B32) : ∃ r, headR seq row l sum = magJ ++ (leB seq 8 ++ (leB row.toNat 2 ++ (leB l.length 1 ++ (leB sum.toNat 4 ++ r)))) := by
  have key : ∀ (m z : List UInt8) (k : Nat), (magJ ++ (leB seq 8 ++ (leB row.toNat 2 ++ (leB l.length 1 ++ (leB sum.toNat 4 ++ [])))) ++ m ++ List.replicate k 0) ++ z = magJ ++ (leB seq 8 ++ (leB row.toNat 2 ++ (leB l.length 1 ++ (leB sum.toNat 4 ++ (m ++ (List.replicate k 0 ++ z)))))) := fun m z k => by simp only [List.append_assoc, List.nil_append]
  exact ⟨_, key (l.map plB) (four (crcSum (padB (frontR seq row l.length sum ++ l.map plB) 60))) (60 - (frontR seq row l.length sum ++ l.map plB).length)⟩
theorem decH_headR {seq : Nat} {row : Int} {l : List RP} {sum : B32} (hs : seq < 2 ^ 64) (hP : PlacedR row l) : decH (headR seq row l sum) = ((seq, row, bare l, sum), 0) := by
  have h40 := hP.2.2.2.1
  have hlen : (headR seq row l sum).length = 64 := headR_len h40
  have hml : (frontR seq row l.length sum ++ l.map plB).length = 19 + l.length := by rw [List.length_append, frontR_len, List.length_map]
  have hopen : openB (headR seq row l sum) = (padB (frontR seq row l.length sum ++ l.map plB) 60, true) := open_seal (n := 64) (by omega)
  have htk : (headR seq row l sum).take 60 = padB (frontR seq row l.length sum ++ l.map plB) 60 := by
    have hp := padB_len (l := frontR seq row l.length sum ++ l.map plB) (n := 60) (by omega)
    exact take_at hp
  obtain ⟨r, hr⟩ := head_parts seq row l sum
  have d4 : (headR seq row l sum).drop 4 = leB seq 8 ++ (leB row.toNat 2 ++ (leB l.length 1 ++ (leB sum.toNat 4 ++ r))) := by rw [hr]; exact drop_at rfl
  have d12 : (headR seq row l sum).drop 12 = leB row.toNat 2 ++ (leB l.length 1 ++ (leB sum.toNat 4 ++ r)) := by
    have : ((headR seq row l sum).drop 4).drop 8 = (headR seq row l sum).drop 12 := by rw [List.drop_drop]
    rw [← this, d4]; exact drop_at (leB_len _ _)
  have d14 : (headR seq row l sum).drop 14 = leB l.length 1 ++ (leB sum.toNat 4 ++ r) := by
    have : ((headR seq row l sum).drop 12).drop 2 = (headR seq row l sum).drop 14 := by rw [List.drop_drop]
    rw [← this, d12]; exact drop_at (leB_len _ _)
  have d15 : (headR seq row l sum).drop 15 = leB sum.toNat 4 ++ r := by
    have : ((headR seq row l sum).drop 14).drop 1 = (headR seq row l sum).drop 15 := by rw [List.drop_drop]
    rw [← this, d14]; exact drop_at (leB_len _ _)
  have q8 : (256 : Nat) ^ 8 = 2 ^ 64 := by decide
  have n1 : leN (((headR seq row l sum).drop 4).take 8) = seq := by rw [d4, take_at (leB_len _ _)]; exact leN_leB _ _ (by omega)
  have n2 : leN (((headR seq row l sum).drop 12).take 2) = row.toNat := by
    rw [d12, take_at (leB_len _ _)]; exact leN_leB _ _ (by have := hP.1; have := hP.2.1; omega)
  have n3 : leN (((headR seq row l sum).drop 14).take 1) = l.length := by rw [d14, take_at (leB_len _ _)]; exact leN_leB _ _ (by omega)
  have n4 : leN (((headR seq row l sum).drop 15).take 4) = sum.toNat := by rw [d15, take_at (leB_len _ _)]; exact leN_leB _ _ (by have := sum.isLt; omega)
  have ho : headOf (headR seq row l sum) = (seq, row, bare l, sum) := by
    unfold headOf
    rw [n1, n2, n3, n4, htk]
    have e1 : ((padB (frontR seq row l.length sum ++ l.map plB) 60).drop 19).take l.length = l.map plB := by
      unfold padB
      rw [List.append_assoc, drop_at (frontR_len ..), take_at (List.length_map ..)]
    rw [e1, partOf_map hP.2.2.2.2.1]
    have e2 : ((row.toNat : Nat) : Int) = row := by have := hP.1; omega
    have e3 : BitVec.ofNat 32 sum.toNat = sum := by simp
    rw [e2, e3]
  have hm : (headR seq row l sum).take 4 = magJ := by rw [hr]; exact take_at rfl
  unfold decH
  rw [if_neg (by omega), if_neg (by rw [hopen]; simp), if_neg (by rw [hm]; simp), ho, if_pos ⟨bare_placed hP, bare_head ..⟩]
theorem decR_headR {seq : Nat} {row : Int} {l : List RP} (hs : seq < 2 ^ 64) (hP : PlacedR row l) (hL : LoadedR l) : decR (headR seq row l (sumR l)) (datas l) = ((seq, row, l), 0) := by
  unfold decR
  rw [decH_headR hs hP]
  rw [if_neg (by simp), if_neg (by simp [bare_len, datas_len])]
  show (if ¬ LoadedR (withD (bare l) (datas l)) then _ else if crcSum (datas l).flatten ≠ sumR l then _ else ((seq, row, withD (bare l) (datas l)), 0)) = _
  rw [withD_bare, if_neg (fun h => h hL), if_neg (fun h => h rfl)]
theorem magM_ne : (magM : List UInt8) ≠ magJ := by decide
theorem mark_open (n : Nat) : openB (markB n) = (padB (magM ++ leB n 8) 60, true) := open_seal (n := 64) (by rw [List.length_append, leB_len]; decide)
theorem mark_dec {n : Nat} (hn : n < 2 ^ 64) : leN (((openB (markB n)).1.drop 4).take 8) = n := by
  rw [mark_open]
  show leN (((padB (magM ++ leB n 8) 60).drop 4).take 8) = n
  unfold padB
  rw [List.append_assoc, drop_at (A := magM) (n := 4) rfl, take_at (leB_len _ _)]
  exact leN_leB _ _ (by have q8 : (256 : Nat) ^ 8 = 2 ^ 64 := by decide
                        omega)
theorem zero_head : (decH (List.replicate 64 0)).2 ≠ 0 := decH_magic (by decide)
end Go.Proofs.YtbecjmfcppginaaGreat
end
section
/-! ring: the record of a number; the records that are found. -/
namespace Go.Proofs.YtbecjmfcppginaaGreat
open Go.Sh Go.RowKit
set_option linter.unusedVariables false
set_option linter.unusedSimpArgs false
set_option maxRecDepth 20000
set_option maxHeartbeats 1000000
def ratF (S n : Nat) : Int := 4 + 41 * ((n % S : Nat) : Int)
def readsF (a : AD) (at_ : Int) (k : Nat) : List (List UInt8) := (List.range k).map fun (i : Nat) => (a.read (at_ + 1 + (i : Int))).1.data.toList
/-- the record of a number -/
def recF (a : AD) (S n : Nat) : RcV × Bool :=
  if (a.read (ratF S n)).2 ≠ 0 then (zRc, false)
  else if (decH (a.read (ratF S n)).1.data.toList).2 ≠ 0 ∨ (decH (a.read (ratF S n)).1.data.toList).1.1 ≠ n then (zRc, false)
  else if ∃ i, i < (decH (a.read (ratF S n)).1.data.toList).1.2.2.1.length ∧ (a.read (ratF S n + 1 + (i : Int))).2 ≠ 0 then (zRc, false)
  else ((decR (a.read (ratF S n)).1.data.toList (readsF a (ratF S n) (decH (a.read (ratF S n)).1.data.toList).1.2.2.1.length)).1, decide ((decR (a.read (ratF S n)).1.data.toList (readsF a (ratF S n) (decH (a.read (ratF S n)).1.data.toList).1.2.2.1.length)).2 = 0))
/-- the records from a number on -/
def recsF (a : AD) (S : Nat) : Nat → Nat → List RcV
  | 0, _ => []
  | k + 1, n => if (recF a S n).2 then (recF a S n).1 :: recsF a S k ((n + 1) % 2 ^ 64) else []
/-- a ring is opened: its trimmed number, or an error -/
def openF (a : AD) : Nat × Int :=
  if (a.read 3).2 ≠ 0 then (0, (a.read 3).2)
  else if (openB (a.read 3).1.data.toList).2 = false ∨ slotsN (a.safe.length : Int) = 0 then (0, 200)
  else if markB (leN (((openB (a.read 3).1.data.toList).1.drop 4).take 8)) ≠ (a.read 3).1.data.toList then (0, 200)
  else (leN (((openB (a.read 3).1.data.toList).1.drop 4).take 8), 0)
theorem recsF_le (a : AD) (S : Nat) : ∀ k n, (recsF a S k n).length ≤ k
  | 0, n => Nat.le_refl _
  | k + 1, n => by
    unfold recsF
    split
    · have := recsF_le a S k ((n + 1) % 2 ^ 64)
      rw [List.length_cons]; omega
    · exact Nat.zero_le _
end Go.Proofs.YtbecjmfcppginaaGreat
end
section
/-! Many drives, and many of the reference's. -/
namespace Go.Proofs.YtbecjmfcppginaaGreat
open Go.Sh Go.RowKit
set_option linter.unusedVariables false
set_option linter.unusedSimpArgs false
set_option maxRecDepth 20000
set_option maxHeartbeats 1000000
def drK (p : Nat) (a : AD) : Kd := fun Y => ∃ D, D.p = p ∧ Abs D a ∧ Y = drvL D
def rfK (p : Nat) (a : AD) : Kd := fun Y => ∃ R, R.p = p ∧ RAbs R a ∧ Y = refL R
section
variable {p q : Nat} {a : AD} {F : List Nat} {w0 w : World} {X : List A}
theorem Dr.ow (h : Dr p a F w0 w X) : Ow (drK p a) F w0 w X := by
  obtain ⟨D, h1, h2, hT⟩ := h
  exact ⟨_, ⟨D, h1, h2, rfl⟩, hT⟩
theorem Ow.dr (h : Ow (drK p a) F w0 w X) : Dr p a F w0 w X := by
  obtain ⟨Y, ⟨D, h1, h2, rfl⟩, hT⟩ := h
  exact ⟨D, h1, h2, hT⟩
theorem Rf.ow (h : Rf p a F w0 w X) : Ow (rfK p a) F w0 w X := by
  obtain ⟨D, h1, h2, hT⟩ := h
  exact ⟨_, ⟨D, h1, h2, rfl⟩, hT.swap List.perm_append_comm⟩
theorem Ow.rf (h : Ow (rfK p a) F w0 w X) : Rf p a F w0 w X := by
  obtain ⟨Y, ⟨D, h1, h2, rfl⟩, hT⟩ := h
  exact ⟨D, h1, h2, hT.swap List.perm_append_comm⟩
end
/-- a drive, or none -/
abbrev Od := Option (Nat × AD)
def odK : Od → Kd
  | none => noK
  | some x => drK x.1 x.2
def orK : Od → Kd
  | none => noK
  | some x => rfK x.1 x.2
abbrev dsK (l : List Od) : Kd := allK odK l
abbrev rsK (l : List Od) : Kd := allK orK l
def odV (x : Od) : Value := .pointer (x.map fun y => ⟨y.1, 0, none⟩)
def dptrs (l : List Od) : List Value := l.map odV
theorem dptrs_len (l : List Od) : (dptrs l).length = l.length := List.length_map ..
theorem dptrs_get {l : List Od} {k : Nat} {x : Od} (h : l[k]? = some x) : (dptrs l)[k]? = some (odV x) := by simp [dptrs, h]
section
variable {l : List Od} {k p : Nat} {a : AD} {F : List Nat} {w0 w : World} {X : List A}
/-- one drive of many -/
theorem Ow.drive (H : Ow (dsK l) F w0 w X) (hk : l[k]? = some (some (p, a))) : ∃ Z, Dr p a F w0 w (X ++ Z) ∧ ∀ {a' : AD} {F' : List Nat} {w0' w' : World} {X' : List A}, Dr p a' F' w0' w' (X' ++ Z) → Ow (dsK (l.set k (some (p, a')))) F' w0' w' X' := by
  obtain ⟨Z, h1, h2⟩ := Ow.at hk H
  exact ⟨Z, Ow.dr h1, fun {a' F' w0' w' X'} h' => h2 (x' := some (p, a')) (Dr.ow h')⟩
theorem Ow.rdrive (H : Ow (rsK l) F w0 w X) (hk : l[k]? = some (some (p, a))) : ∃ Z, Rf p a F w0 w (X ++ Z) ∧ ∀ {a' : AD} {F' : List Nat} {w0' w' : World} {X' : List A}, Rf p a' F' w0' w' (X' ++ Z) → Ow (rsK (l.set k (some (p, a')))) F' w0' w' X' := by
  obtain ⟨Z, h1, h2⟩ := Ow.at hk H
  exact ⟨Z, Ow.rf h1, fun {a' F' w0' w' X'} h' => h2 (x' := some (p, a')) (Rf.ow h')⟩
theorem set_get_same {α : Type} {l : List α} {k : Nat} {x : α} (h : l[k]? = some x) : l.set k x = l := by
  obtain ⟨hk, he⟩ := List.getElem?_eq_some_iff.1 h
  rw [← he, List.set_getElem_self]
/-- a call on one drive of many -/
theorem Ow.onDrive {P : Program} {f : FuncId} {args : Array Value} {v : Value} {b : AD} (H : Ow (dsK l) F w0 w X) (hk : l[k]? = some (some (p, a)))
    (hc : ∀ Z, Dr p a F w0 w (X ++ Z) → Calls P f args w fun e w' => e = .returned v ∧ Dr p b F w0 w' (X ++ Z)) : Calls P f args w fun e w' => e = .returned v ∧ Ow (dsK (l.set k (some (p, b)))) F w0 w' X := by
  obtain ⟨Z, h1, h2⟩ := Ow.drive H hk
  exact (hc Z h1).mono fun e w' ⟨he, h'⟩ => ⟨he, h2 h'⟩
theorem Ow.onRef {P : Program} {f : FuncId} {args : Array Value} {v : Value} {b : AD} (H : Ow (rsK l) F w0 w X) (hk : l[k]? = some (some (p, a)))
    (hc : ∀ Z, Rf p a F w0 w (X ++ Z) → Calls P f args w fun e w' => e = .returned v ∧ Rf p b F w0 w' (X ++ Z)) : Calls P f args w fun e w' => e = .returned v ∧ Ow (rsK (l.set k (some (p, b)))) F w0 w' X := by
  obtain ⟨Z, h1, h2⟩ := Ow.rdrive H hk
  exact (hc Z h1).mono fun e w' ⟨he, h'⟩ => ⟨he, h2 h'⟩
end
theorem getD_mem_or {α : Type} (l : List α) (j : Nat) (d : α) : l.getD j d ∈ l ∨ l.getD j d = d := by
  by_cases h : j < l.length
  · exact .inl (by simp [List.getD, h])
  · exact .inr (by simp [List.getD, List.getElem?_eq_none (Nat.le_of_not_lt h)])
/-- what a drive holds is no longer than a sector -/
theorem Dr.top_size {p : Nat} {a : AD} {F : List Nat} {w0 w : World} {X : List A} (h : Dr p a F w0 w X) (i : Nat) : (a.top i).size ≤ 64 := by
  obtain ⟨D, _, hA, _⟩ := h
  have hs : ∀ s ∈ a.safe, s.size = 64 := by rw [← hA.safe]; exact hA.ok.s64
  have hp : ∀ s ∈ a.pend i, s.size = 64 := by
    rw [← hA.pend i]
    unfold pendW
    cases hf : D.ws.find? fun e => e.k == (i : Int) with
    | none => intro s hs; cases hs
    | some e => exact hA.ok.w64 e (List.mem_of_find?_eq_some hf)
  unfold AD.top
  split
  · rename_i s he
    have := hp s (List.mem_of_getLast? he)
    omega
  · rcases getD_mem_or a.safe i noB with h | h
    · have := hs _ h; omega
    · rw [h]; show 0 ≤ 64; omega
theorem Dr.read_size {p : Nat} {a : AD} {F : List Nat} {w0 w : World} {X : List A} (h : Dr p a F w0 w X) (i : Int) : (a.read i).1.size ≤ 64 := by
  unfold AD.read
  split
  · show 0 ≤ 64; omega
  · split
    · show 0 ≤ 64; omega
    · exact h.top_size _
/-- pointers to blocks, or to none -/
def pv (x : Option Nat) : Value := .pointer (ptr x)
def ptrsV (ps : List (Option Nat)) : List Value := ps.map pv
theorem ptrsV_get {ps : List (Option Nat)} {k : Nat} {x : Option Nat} (h : ps[k]? = some x) : (ptrsV ps)[k]? = some (pv x) := by simp [ptrsV, h]
theorem ptrsV_len (ps : List (Option Nat)) : (ptrsV ps).length = ps.length := List.length_map ..
def odB (x : Od) : Option Nat := x.map fun y => y.1
/-- the blocks of drives -/
def blks (l : List Od) : List (Option Nat) := l.map odB
theorem blks_len (l : List Od) : (blks l).length = l.length := List.length_map ..
theorem blks_get {l : List Od} {k : Nat} {x : Od} (h : l[k]? = some x) : (blks l)[k]? = some (odB x) := by simp [blks, h]
theorem blks_set {l : List Od} {k p : Nat} {a b : AD} (h : l[k]? = some (some (p, a))) : blks (l.set k (some (p, b))) = blks l := by
  unfold blks
  rw [List.map_set]
  exact set_get_same (by simp [h, odB])
/-- a pointer of a row of them -/
theorem Ow.pcell {h : Kd} {F : List Nat} {w0 w : World} {X : List A} {t : TypeId} {g : Option Nat} {n cap : Nat} {ps : List (Option Nat)} (H : Ow h F w0 w X) (hm : rowP t 1 g n cap (ptrsV ps) ∈ X) {k : Nat} (hk : k < ps.length) : ∃ b, g = some b ∧ w.cell? (Addr.add ⟨b, 0, none⟩ (k * 1)) = some (.pointer (ptr (ps.getD k none))) := by
  have hs := H.under.says hm
  have hl : (ptrsV ps).length = n * 1 := rowP.len hs
  rw [ptrsV_len] at hl
  obtain ⟨b, rfl⟩ := rowP.pos hs (by omega)
  refine ⟨b, rfl, ?_⟩
  rw [addr_add, Nat.zero_add, Nat.mul_one]
  have : ps[k]? = some (ps.getD k none) := by simp [List.getD, hk]
  exact rowP.cell hs (ptrsV_get this)
/-- few writes are pending on each -/
def FewL (l : List Od) (N : Nat) : Prop := ∀ q a, some (q, a) ∈ l → a.Few N
theorem FewL.mono {l : List Od} {N M : Nat} (h : FewL l N) (hm : N ≤ M) : FewL l M := fun q a hq => (h q a hq).mono hm
theorem T.pcell {F : List Nat} {w0 w : World} {X : List A} {t : TypeId} {b n cap : Nat} {ps : List (Option Nat)} (H : T F w0 w X) (hm : rowP t 1 (some b) n cap (ptrsV ps) ∈ X) {k : Nat} (hk : k < ps.length) : w.cell? (Addr.add ⟨b, 0, none⟩ (k * 1)) = some (.pointer (ptr (ps.getD k none))) := by
  rw [addr_add, Nat.zero_add, Nat.mul_one]
  have : ps[k]? = some (ps.getD k none) := by simp [List.getD, hk]
  exact rowP.cell (H.says hm) (ptrsV_get this)
section
variable {P : Program} {f : FuncId} {args : Array Value} {v : Value} {g : Kd} {F : List Nat} {w0 w : World} {X : List A} {l l' : List Od} {k p : Nat} {a b : AD}
/-- a call on the first kind of two -/
theorem Ow.onFst {h h' : Kd} (H : Ow (star h g) F w0 w X) (hc : ∀ Z, Ow h F w0 w (X ++ Z) → Calls P f args w fun e w' => e = .returned v ∧ Ow h' F w0 w' (X ++ Z)) : Calls P f args w fun e w' => e = .returned v ∧ Ow (star h' g) F w0 w' X := by
  obtain ⟨Z, hZ, h1, h2⟩ := Ow.lend H
  exact (hc Z h1).mono fun e w' ⟨he, h3⟩ => ⟨he, h2 h3⟩
theorem Ow.onSnd {h h' : Kd} (H : Ow (star g h) F w0 w X) (hc : ∀ Z, Ow h F w0 w (X ++ Z) → Calls P f args w fun e w' => e = .returned v ∧ Ow h' F w0 w' (X ++ Z)) : Calls P f args w fun e w' => e = .returned v ∧ Ow (star g h') F w0 w' X :=
  (Ow.onFst H.flip hc).mono fun e w' ⟨he, h3⟩ => ⟨he, h3.flip⟩
theorem Ow.onD (H : Ow (star (dsK l) g) F w0 w X) (hk : l[k]? = some (some (p, a))) (hc : ∀ Z, Dr p a F w0 w (X ++ Z) → Calls P f args w fun e w' => e = .returned v ∧ Dr p b F w0 w' (X ++ Z)) : Calls P f args w fun e w' => e = .returned v ∧ Ow (star (dsK (l.set k (some (p, b)))) g) F w0 w' X :=
  Ow.onFst H fun Z hZ => Ow.onDrive hZ hk fun Z' hZ' => by
    rw [List.append_assoc] at hZ' ⊢
    exact hc (Z ++ Z') hZ'
theorem Ow.onR (H : Ow (star g (rsK l)) F w0 w X) (hk : l[k]? = some (some (p, a))) (hc : ∀ Z, Rf p a F w0 w (X ++ Z) → Calls P f args w fun e w' => e = .returned v ∧ Rf p b F w0 w' (X ++ Z)) : Calls P f args w fun e w' => e = .returned v ∧ Ow (star g (rsK (l.set k (some (p, b))))) F w0 w' X :=
  Ow.onSnd H fun Z hZ => Ow.onRef hZ hk fun Z' hZ' => by
    rw [List.append_assoc] at hZ' ⊢
    exact hc (Z ++ Z') hZ'
end
/-- how drives stand, whichever they are -/
def adO (x : Od) : Option AD := x.map fun y => y.2
def ads (l : List Od) : List (Option AD) := l.map adO
theorem ads_get {l m : List Od} (h : ads l = ads m) {k p : Nat} {a : AD} (hk : l[k]? = some (some (p, a))) : ∃ q, m[k]? = some (some (q, a)) := by
  have h1 : (ads l)[k]? = some (some a) := by simp [ads, hk, adO]
  rw [h] at h1
  unfold ads at h1
  rw [List.getElem?_map] at h1
  cases hx : m[k]? with
  | none => rw [hx] at h1; cases h1
  | some x =>
    rw [hx] at h1
    cases x with
    | none => cases h1
    | some y =>
      have : y.2 = a := by simpa [adO] using h1
      exact ⟨y.1, by rw [← this]⟩
theorem ads_set {l m : List Od} (h : ads l = ads m) {k p q : Nat} {a : AD} : ads (l.set k (some (p, a))) = ads (m.set k (some (q, a))) := by
  unfold ads at *
  rw [List.map_set, List.map_set, h]; rfl
theorem ads_len {l m : List Od} (h : ads l = ads m) : l.length = m.length := by
  have := congrArg List.length h
  simpa [ads] using this
theorem FewL.ads {l m : List Od} {N : Nat} (h : ads l = ads m) (hF : FewL l N) : FewL m N := fun q a hm => by
  obtain ⟨k, hk, he⟩ := List.getElem_of_mem hm
  obtain ⟨p, hp⟩ := ads_get h.symm (k := k) (p := q) (a := a) (by rw [List.getElem?_eq_getElem hk, he])
  exact hF p a (List.mem_of_getElem? hp)
theorem FewL.set {l : List Od} {N : Nat} (h : FewL l N) {k p : Nat} {a : AD} (ha : a.Few N) : FewL (l.set k (some (p, a))) N := fun q b hm => by
  rcases List.mem_or_eq_of_mem_set hm with hm | hm
  · exact h q b hm
  · simp at hm
    rw [hm.2]; exact ha
section
variable {h g : Kd} {F : List Nat} {w0 w : World} {X : List A} {l : List Od} {q : Nat} {a : AD}
theorem Ow.newD {n : Nat} (H : Ow h F w0 w X) (hn : 1 ≤ n ∧ n ≤ 4096) {Φ : Ending → World → Prop} (hk : ∀ q w', Ow (star (drK q (AD.new n)) h) F w0 w' X → Φ (.returned (.pointer (some ⟨q, 0, none⟩))) w') : Calls Tryz.prog 6 #[.int .i64 n] w Φ := by
  obtain ⟨Y, hY, hT⟩ := H
  refine new_u hT hn fun q w' h' => hk q w' ?_
  exact Ow.join hY (Dr.ow h')
theorem Ow.newR {n : Nat} (H : Ow h F w0 w X) (hn : 1 ≤ n ∧ n ≤ 4096) {Φ : Ending → World → Prop} (hk : ∀ q w', Ow (star (rfK q (AD.new n)) h) F w0 w' X → Φ (.returned (.pointer (some ⟨q, 0, none⟩))) w') : Calls Tryz.prog 7 #[.int .i64 n] w Φ := by
  obtain ⟨Y, hY, hT⟩ := H
  refine (rnew_r n hT hn).mono fun e w' ⟨q, he, h'⟩ => he ▸ hk q w' ?_
  exact Ow.join hY (Rf.ow h')
theorem Ow.assoc {k : Kd} (H : Ow (star k (star h g)) F w0 w X) : Ow (star (star k h) g) F w0 w X := by
  obtain ⟨Y, ⟨Y1, Y2, h1, ⟨Y3, Y4, h2, h3, rfl⟩, rfl⟩, hT⟩ := H
  exact ⟨_, ⟨Y1 ++ Y3, Y4, ⟨Y1, Y3, h1, h2, rfl⟩, h3, rfl⟩, by rw [List.append_assoc Y1 Y3 Y4]; exact hT⟩
theorem Ow.inFst {h' : Kd} (H : Ow (star h g) F w0 w X) (hi : ∀ {X : List A}, Ow h F w0 w X → Ow h' F w0 w X) : Ow (star h' g) F w0 w X := by
  obtain ⟨Z, hZ, h1, h2⟩ := Ow.lend H
  exact h2 (hi h1)
theorem Ow.inSnd {h' : Kd} (H : Ow (star g h) F w0 w X) (hi : ∀ {X : List A}, Ow h F w0 w X → Ow h' F w0 w X) : Ow (star g h') F w0 w X := (Ow.inFst H.flip hi).flip
theorem Ow.addD (H : Ow (star (drK q a) (star (dsK l) g)) F w0 w X) : Ow (star (dsK (l ++ [some (q, a)])) g) F w0 w X :=
  Ow.inFst (Ow.assoc H) fun h => Ow.snoc (f := odK) (x := some (q, a)) h
theorem Ow.addR (H : Ow (star (rfK q a) (star g (rsK l))) F w0 w X) : Ow (star g (rsK (l ++ [some (q, a)]))) F w0 w X := by
  obtain ⟨Y, ⟨Y1, Y2, h1, ⟨Y3, Y4, h2, h3, rfl⟩, rfl⟩, hT⟩ := H
  have h4 : Ow (star (rfK q a) (rsK l)) F w0 w (X ++ Y3) := ⟨Y1 ++ Y4, ⟨Y1, Y4, h1, h3, rfl⟩, hT.swap (by
    rw [List.append_assoc]
    refine List.Perm.append_left _ ?_
    rw [← List.append_assoc, ← List.append_assoc]
    exact List.perm_append_comm.append_right _)⟩
  exact (Ow.join h2 (Ow.snoc (f := orK) (x := some (q, a)) h4)).flip
theorem Ow.addDN (H : Ow (star (dsK l) g) F w0 w X) : Ow (star (dsK (l ++ [none])) g) F w0 w X :=
  Ow.inFst H fun h => by
    refine Ow.snoc (f := odK) (x := none) ?_
    obtain ⟨Y, hY, hT⟩ := h
    exact ⟨Y, ⟨[], Y, rfl, hY, rfl⟩, hT⟩
theorem Ow.addRN (H : Ow (star g (rsK l)) F w0 w X) : Ow (star g (rsK (l ++ [none]))) F w0 w X :=
  Ow.inSnd H fun h => by
    refine Ow.snoc (f := orK) (x := none) ?_
    obtain ⟨Y, hY, hT⟩ := h
    exact ⟨Y, ⟨[], Y, rfl, hY, rfl⟩, hT⟩
end
theorem blks_snoc (l : List Od) (x : Od) : ptrsV (blks (l ++ [x])) = ptrsV (blks l) ++ [odV x] := by
  cases x <;> simp [ptrsV, blks, odB, pv, odV]
theorem ads_snoc (l : List Od) (x : Od) : ads (l ++ [x]) = ads l ++ [adO x] := by simp [ads]
end Go.Proofs.YtbecjmfcppginaaGreat
end
section
/-! ring: record. -/
namespace Go.Proofs.YtbecjmfcppginaaGreat
open Go.Sh Go.RowKit
set_option linter.unusedVariables false
set_option linter.unusedSimpArgs false
set_option maxRecDepth 20000
set_option maxHeartbeats 1000000
def rxV (d : RcV × Bool) (g : Option Nat) (cap : Nat) : Value := .tuple #[.agg (rcC d.1.1 d.1.2.1 (ptr g) d.1.2.2.length cap), .bool d.2]
theorem readsF_len (a : AD) (at_ : Int) (k : Nat) : (readsF a at_ k).length = k := by unfold readsF; rw [List.length_map, List.length_range]
theorem readsF_next (a : AD) (at_ : Int) (k : Nat) : readsF a at_ (k + 1) = readsF a at_ k ++ [(a.read (at_ + 1 + (k : Int))).1.data.toList] := by
  unfold readsF; rw [List.range_succ, List.map_append]; rfl
theorem strB_data (s : ByteArray) : strB s.data.toList = s := rfl
section
variable {q r S t n : Nat} {a : AD} {F : List Nat} {w0 w : World} {X : List A}
theorem Dr.size_of (h : Dr q a F w0 w X) (i : Int) : (a.read i).1.data.toList.length ≤ 64 := h.read_size i
theorem Dr.push1 {t e : TypeId} {i : TypeInfo} {z v : Value} (ht : Tryz.prog.underlying t = some (.slice e)) (hi : Tryz.prog.info? e = some i) (hz : i.zero = some z) (hsize : i.size = 1) (hzs : z.cells.size = 1) (hby : decide (i.bytes ≤ 1000000) = true)
    {g : Option Nat} {n cap : Nat} {xs : List Value} {Δ : List A} (h : Dr q a F w0 w X) (hk : Pick (rowP e 1 g n cap xs) X Δ) (hv : v.oneCell' = true) (hn : n ≤ 1000000) {K : Option Addr → Nat → Nat → World → Prop} (hK : ∀ g' cap' w', Dr q a F w0 w' (rowP e 1 g' (n + 1) cap' (xs ++ [v]) :: Δ) → K (ptr g') (n + 1) cap' w') :
    Alloc #[v] e w fun k w1 => ∃ (p : Option Addr) (l c : Nat), ∃ w2, (builtin .append #[t, t] t #[false, false] #[.slice (ptr g) n cap, .slice (some ⟨k, 0, none⟩) 1 1]).run Tryz.prog w1 = .ok (.value (.slice p l c)) w2 ∧ K p l c w2 := by
  obtain ⟨D, hD, hA, hT⟩ := h
  exact push1_t ht hi hz hsize hzs hby hT (hk.app (drvL D)) hv hn fun g' cap' w' hT' => hK g' cap' w' ⟨D, hD, hA, hT'⟩
theorem Dr.pushN {t e : TypeId} {i : TypeInfo} {z : Value} {c : Array Value} {size : Nat} (ht : Tryz.prog.underlying t = some (.slice e)) (hi : Tryz.prog.info? e = some i) (hz : i.zero = some z) (hsize : i.size = size) (hzs : z.cells.size = size) (hby : decide (i.bytes ≤ 1000000) = true)
    {g : Option Nat} {n cap : Nat} {xs : List Value} {Δ : List A} (h : Dr q a F w0 w X) (hk : Pick (rowP e size g n cap xs) X Δ) (hc : c.size = size) (hv : ∀ u ∈ c.toList, u.oneCell' = true) (hn : n ≤ 1000000) {K : Option Addr → Nat → Nat → World → Prop} (hK : ∀ g' cap' w', Dr q a F w0 w' (rowP e size g' (n + 1) cap' (xs ++ c.toList) :: Δ) → K (ptr g') (n + 1) cap' w') :
    Alloc c e w fun k w1 => ∃ (p : Option Addr) (l c : Nat), ∃ w2, (builtin .append #[t, t] t #[false, false] #[.slice (ptr g) n cap, .slice (some ⟨k, 0, none⟩) 1 1]).run Tryz.prog w1 = .ok (.value (.slice p l c)) w2 ∧ K p l c w2 := by
  obtain ⟨D, hD, hA, hT⟩ := h
  exact pushN_t ht hi hz hsize hzs hby hT (hk.app (drvL D)) hc hv hn fun g' cap' w' hT' => hK g' cap' w' ⟨D, hD, hA, hT'⟩
theorem record_spec (h : Dr q a F w0 w X) (hm : blk r (rgC q S t n) 87 ∈ X) (hF : a.Few 1000000) (h1 : 1 ≤ S) (h2 : S ≤ 1000000) {m : Nat} (hm64 : m < 2 ^ 64) :
    Calls Tryz.prog 45 #[.pointer (some ⟨r, 0, none⟩), .int .u64 (m : Int)] w fun e w' => ∃ g cap, e = .returned (rxV (recF a S m) g cap) ∧ Dr q a F w0 w' (rowP 71 3 g (recF a S m).1.2.2.length cap (rpL (recF a S m).1.2.2) :: X) := by
  refine (ring_Ring_record_calls (R := fun v w' => ∃ g cap, v = rxV (recF a S m) g cap ∧ Dr q a F w0 w' (rowP 71 3 g (recF a S m).1.2.2.length cap (rpL (recF a S m).1.2.2) :: X)) ?_).mono fun e w' ⟨v, he, g, cap, hv, h⟩ => ⟨g, cap, by rw [he, hv], h⟩
  unfold ring_Ring_record
  refine Dr.alloc h fun k4 w1 h1' => ?_
  have h1' : Dr q a F w0 w1 (blk k4 zR 95 :: X) := h1'
  have bad : ∀ (w' : World) (Δ : List A), Dr q a F w0 w' (Δ ++ blk k4 zR 95 :: X) → recF a S m = (zRc, false) →
      St ⟨k4, 0, none⟩ (.int .u64 0) w' fun w2 => St ⟨k4, 1, none⟩ (.int .i64 0) w2 fun w3 => St ⟨k4, 2, none⟩ (.slice none 0 0) w3 fun w4 => ∃ nr2_0 : Int, ∃ nr2_1 : Int, ∃ (pr2_2 : Option Addr) (lr2_2 cr2_2 : Nat), (w4.cell? ⟨k4, 0, none⟩ = some (.int .u64 nr2_0) ∧ w4.cell? ⟨k4, 1, none⟩ = some (.int .i64 nr2_1) ∧ w4.cell? ⟨k4, 2, none⟩ = some (.slice pr2_2 lr2_2 cr2_2)) ∧
        ∃ g cap, (Value.tuple #[.agg #[.int .u64 nr2_0, .int .i64 nr2_1, .slice pr2_2 lr2_2 cr2_2], .bool false]) = rxV (recF a S m) g cap ∧ Dr q a F w0 w4 (rowP 71 3 g (recF a S m).1.2.2.length cap (rpL (recF a S m).1.2.2) :: X) := by
    intro w' Δ hT' hd
    have hT' := Dr.back hT'
    refine Dr.st1 (c' := zR) hT' (show 0 < 3 by decide) rfl rfl fun w2 h2 => Dr.st1 (c' := zR) h2 (show 1 < 3 by decide) rfl rfl fun w3 h3 => Dr.st1 (c' := zR) h3 (show 2 < 3 by decide) rfl rfl fun w4 h4 => ?_
    refine ⟨_, _, _, _, _, ⟨h4.under.ld (c := zR) List.mem_cons_self rfl, h4.under.ld (c := zR) (i := 1) List.mem_cons_self rfl, h4.under.ld (c := zR) (i := 2) List.mem_cons_self rfl⟩, none, 0, ?_, ?_⟩
    · rw [hd]; rfl
    · rw [hd]; exact Dr.nilRow h4.dropX _ _
  refine (first_spec h1' (List.mem_cons_of_mem _ hm) h1 h2 m).mono fun e w2 ⟨he2, hx2⟩ => ⟨_, he2, ?_⟩
  have hd2 := h1'.quiet hx2
  have ptrR : ∀ {w' : World} {Δ : List A}, Dr q a F w0 w' (Δ ++ blk k4 zR 95 :: X) → w'.cell? ⟨r, 0, none⟩ = some (.pointer (some ⟨q, 0, none⟩)) := fun hh => hh.under.ld (c := rgC q S t n) (List.mem_append_right _ (List.mem_cons_of_mem _ hm)) rfl
  obtain ⟨at_, hat, hat0, hat1⟩ : ∃ x : Int, ratF S m = x ∧ 0 ≤ x ∧ x ≤ 50000000 := ⟨_, rfl, by unfold ratF; omega, by have : m % S < S := Nat.mod_lt _ (by omega); unfold ratF; omega⟩
  have eat : (4 + 41 * ((m % S : Nat) : Int)) = at_ := hat
  rw [eat]
  refine ⟨_, rfl, _, ptrR (Δ := []) hd2, ?_⟩
  refine (read_a hd2 hF at_).mono fun e w3 ⟨he3, hx3⟩ => ⟨_, _, he3, ?_⟩
  have hd3 := hd2.quiet hx3
  have hsz := hd3.size_of at_
  have hrec : recF a S m = if (a.read at_).2 ≠ 0 then (zRc, false)
      else if (decH (a.read at_).1.data.toList).2 ≠ 0 ∨ (decH (a.read at_).1.data.toList).1.1 ≠ m then (zRc, false)
      else if ∃ i, i < (decH (a.read at_).1.data.toList).1.2.2.1.length ∧ (a.read (at_ + 1 + (i : Int))).2 ≠ 0 then (zRc, false)
      else ((decR (a.read at_).1.data.toList (readsF a at_ (decH (a.read at_).1.data.toList).1.2.2.1.length)).1, decide ((decR (a.read at_).1.data.toList (readsF a at_ (decH (a.read at_).1.data.toList).1.2.2.1.length)).2 = 0)) := by
    unfold recF; rw [hat]
  rw [← strB_data (a.read at_).1]
  generalize (a.read at_).1.data.toList = b at hrec hsz
  generalize (a.read at_).2 = er at hrec
  refine ⟨bne_t fun hne => bad w3 [] hd3 (by rw [hrec]; exact if_pos hne), bne_f fun heq => ?_⟩
  rw [if_neg (fun hn => hn heq)] at hrec
  refine Dr.intoT (Y := []) hd3 fun Γ hT hback => ?_
  have h41 := decH_len b
  have hhd := rhead_spec hT b (by omega)
  generalize decH b = d at hhd hrec h41
  obtain ⟨⟨seq, row, ps, sum⟩, e2⟩ := d
  have h41 : ps.length ≤ 41 := h41
  have hrec : recF a S m = if e2 ≠ 0 ∨ seq ≠ m then (zRc, false) else if ∃ i, i < ps.length ∧ (a.read (at_ + 1 + (i : Int))).2 ≠ 0 then (zRc, false) else ((decR b (readsF a at_ ps.length)).1, decide ((decR b (readsF a at_ ps.length)).2 = 0)) := hrec
  refine hhd.mono fun e w7 ⟨g, cap, he7, hT7⟩ => ⟨_, _, _, _, _, _, _, he7, ?_⟩
  have h7 : Dr q a F w0 w7 (rowP 71 3 g ps.length cap (rpL ps) :: blk k4 zR 95 :: X) := hback w7 [_] hT7
  refine Dr.alloc h7 fun k9 w8 h8 => Dr.st1 (c := zR) (c' := #[.int .u64 (seq : Int), .int .i64 0, .slice none 0 0]) h8 (show 0 < 3 by decide) rfl rfl fun w9 h9 => Dr.st1 (c' := #[.int .u64 (seq : Int), .int .i64 row, .slice none 0 0]) h9 (show 1 < 3 by decide) rfl rfl fun w10 h10 => Dr.st1 (c' := rcC seq row (ptr g) ps.length cap) h10 (show 2 < 3 by decide) rfl rfl fun w11 h11 => ?_
  refine ⟨bne_t fun hne => bad w11 [_, _] h11 (by rw [hrec]; exact if_pos (Or.inl hne)), bne_f fun heq2 => ?_⟩
  refine ⟨_, h11.under.ld (c := rcC seq row (ptr g) ps.length cap) List.mem_cons_self rfl, ?_⟩
  refine ⟨bne_t fun hne => bad w11 [_, _] h11 (by rw [hrec]; exact if_pos (Or.inr (by omega))), bne_f fun heq3 => ?_⟩
  have heq3 : seq = m := by omega
  have heq2 : e2 = 0 := heq2
  rw [if_neg (by omega)] at hrec
  refine ⟨_, _, _, h11.under.ld (c := rcC seq row (ptr g) ps.length cap) (i := 2) List.mem_cons_self rfl, ?_⟩
  refine ⟨fun vs w' => ∃ (i : Nat) (gl : Option Nat) (cl : Nat), vs = [.slice (ptr gl) i cl, .int .i64 (i : Int)] ∧ i ≤ ps.length ∧ (∀ j, j < i → (a.read (at_ + 1 + (j : Int))).2 = 0) ∧ Dr q a F w0 w' (rowP 9 1 gl i cl (strV (readsF a at_ i)) :: blk k9 (rcC seq row (ptr g) ps.length cap) 95 :: rowP 71 3 g ps.length cap (rpL ps) :: blk k4 zR 95 :: X), fun vs _ => match vs with | [_, .int _ i] => (ps.length - i).toNat | _ => 0, ⟨0, none, 0, rfl, by omega, fun j hj => by omega, Dr.nilRow h11 _ _⟩, ?_⟩
  rintro vs w18 ⟨i, gl, cl, rfl, hi, hok, h18⟩
  refine ⟨_, _, _, _, rfl, dec_t fun hlt => ?_, dec_f fun hge => ?_⟩
  · have hlt : i < ps.length := by omega
    have e41 : IntKind.i64.wrap (IntKind.i64.wrap (at_ + 1) + (i : Int)) = at_ + 1 + (i : Int) := by
      rw [wrap64 (at_ + 1) (by omega) (by omega), wrap64 _ (by omega) (by omega)]
    rw [e41]
    refine ⟨_, rfl, _, ptrR (Δ := [_, _, _]) h18, ?_⟩
    refine (read_a h18 hF (at_ + 1 + (i : Int))).mono fun e w19 ⟨he19, hx19⟩ => ⟨_, _, he19, ?_⟩
    have h19 := h18.quiet hx19
    have hnext := readsF_next a at_ i
    refine ⟨bne_t fun hne => bad w19 [_, _, _] h19 (by rw [hrec]; exact if_pos ⟨i, hlt, hne⟩), bne_f fun heq => ?_⟩
    rw [← strB_data (a.read (at_ + 1 + (i : Int))).1]
    refine Dr.push1 (i := Tryz.t9) (z := .string (ByteArray.mk #[])) (by kernel_rfl) (by kernel_rfl) (by kernel_rfl) (by kernel_rfl) (by kernel_rfl) (by kernel_rfl) h19 .head rfl (by omega) fun g2 cap2 w24 h24 => ⟨⟨i + 1, g2, cap2, ?_, by omega, fun j hj => ?_, ?_⟩, ?_⟩
    · rw [wrap64 _ (by omega) (by omega)]; rfl
    · by_cases hji : j = i
      · rw [hji]; exact heq
      · exact hok j (by omega)
    · have : strV (readsF a at_ (i + 1)) = strV (readsF a at_ i) ++ [.string (strB (a.read (at_ + 1 + (i : Int))).1.data.toList)] := by
        rw [hnext]; unfold strV; rw [List.map_append]; rfl
      rw [this]; exact h24
    · show ((ps.length : Int) - IntKind.i64.wrap ((i : Int) + 1)).toNat < ((ps.length : Int) - (i : Int)).toNat
      rw [wrap64 _ (by omega) (by omega)]; omega
  · have hie : i = ps.length := by omega
    subst hie
    rw [if_neg (fun ⟨j, hj, hx⟩ => hx (hok j hj))] at hrec
    have hlen := readsF_len a at_ ps.length
    generalize readsF a at_ ps.length = L at hrec hlen h18
    have h18' : Dr q a F w0 w18 (rowP 9 1 gl L.length cl (strV L) :: blk k9 (rcC seq row (ptr g) ps.length cap) 95 :: rowP 71 3 g ps.length cap (rpL ps) :: blk k4 zR 95 :: X) := by rw [hlen]; exact h18
    refine Dr.intoT (Y := []) h18' fun Γ hT hback => ?_
    have hrd := rdec_spec hT b (by omega) (L := L) (gl := gl) (cl := cl) List.mem_cons_self
    rw [hlen] at hrd hback
    generalize decR b L = d at hrd hrec
    obtain ⟨⟨seq', row', ps'⟩, e3⟩ := d
    refine hrd.mono fun e w25 ⟨g', cap', he25, hT25⟩ => ⟨_, _, _, _, _, _, he25, ?_⟩
    have h25 : Dr q a F w0 w25 (rowP 71 3 g' ps'.length cap' (rpL ps') :: rowP 9 1 gl ps.length cl (strV L) :: blk k9 (rcC seq row (ptr g) ps.length cap) 95 :: rowP 71 3 g ps.length cap (rpL ps) :: blk k4 zR 95 :: X) := hback w25 [_] hT25
    have h25 : Dr q a F w0 w25 (blk k4 zR 95 :: rowP 71 3 g' ps'.length cap' (rpL ps') :: X) := by
      have hp := Dr.perm h25 (X' := rowP 9 1 gl ps.length cl (strV L) :: blk k9 (rcC seq row (ptr g) ps.length cap) 95 :: rowP 71 3 g ps.length cap (rpL ps) :: blk k4 zR 95 :: rowP 71 3 g' ps'.length cap' (rpL ps') :: X) ((List.perm_middle (l₁ := [_, _, _, _]) (l₂ := X)).symm)
      exact hp.dropX.dropX.dropX
    refine Dr.alloc h25 fun k15 w26 h26 => Dr.st1 (c := zR) (c' := #[.int .u64 (seq' : Int), .int .i64 0, .slice none 0 0]) h26 (show 0 < 3 by decide) rfl rfl fun w27 h27 => Dr.st1 (c' := #[.int .u64 (seq' : Int), .int .i64 row', .slice none 0 0]) h27 (show 1 < 3 by decide) rfl rfl fun w28 h28 => Dr.st1 (c' := rcC seq' row' (ptr g') ps'.length cap') h28 (show 2 < 3 by decide) rfl rfl fun w29 h29 => ?_
    refine ⟨_, _, _, _, _, ⟨h29.under.ld (c := rcC seq' row' (ptr g') ps'.length cap') List.mem_cons_self rfl, h29.under.ld (c := rcC seq' row' (ptr g') ps'.length cap') (i := 1) List.mem_cons_self rfl, h29.under.ld (c := rcC seq' row' (ptr g') ps'.length cap') (i := 2) List.mem_cons_self rfl⟩, ?_⟩
    refine Dr.st1 (c' := #[.int .u64 (seq' : Int), .int .i64 0, .slice none 0 0]) h29.dropX (show 0 < 3 by decide) rfl rfl fun w30 h30 => Dr.st1 (c' := #[.int .u64 (seq' : Int), .int .i64 row', .slice none 0 0]) h30 (show 1 < 3 by decide) rfl rfl fun w31 h31 => Dr.st1 (c' := rcC seq' row' (ptr g') ps'.length cap') h31 (show 2 < 3 by decide) rfl rfl fun w32 h32 => ?_
    refine ⟨_, _, _, _, _, ⟨h32.under.ld (c := rcC seq' row' (ptr g') ps'.length cap') List.mem_cons_self rfl, h32.under.ld (c := rcC seq' row' (ptr g') ps'.length cap') (i := 1) List.mem_cons_self rfl, h32.under.ld (c := rcC seq' row' (ptr g') ps'.length cap') (i := 2) List.mem_cons_self rfl⟩, g', cap', ?_, ?_⟩
    · rw [hrec]
      show Value.tuple #[_, .bool (e3 == 0)] = Value.tuple #[_, .bool (decide (e3 = 0))]
      have : (e3 == 0) = decide (e3 = 0) := by by_cases h0 : e3 = 0 <;> simp [h0]
      rw [this]; rfl
    · rw [hrec]; exact h32.dropX
end
end Go.Proofs.YtbecjmfcppginaaGreat
end
section
/-! ring: Open. -/
namespace Go.Proofs.YtbecjmfcppginaaGreat
open Go.Sh Go.RowKit
set_option linter.unusedVariables false
set_option linter.unusedSimpArgs false
set_option maxRecDepth 20000
set_option maxHeartbeats 1000000
/-- a record, and where its parts lie -/
abbrev RcX : Type := RcV × Option Nat × Nat
def rxC (x : RcX) : Array Value := rcC x.1.1 x.1.2.1 (ptr x.2.1) x.1.2.2.length x.2.2
def rxL (l : List RcX) : List Value := l.flatMap fun x => (rxC x).toList
def rxOwn (l : List RcX) : List A := l.map fun x => rowP 71 3 x.2.1 x.1.2.2.length x.2.2 (rpL x.1.2.2)
theorem rxL_snoc (l : List RcX) (x : RcX) : rxL l ++ (rxC x).toList = rxL (l ++ [x]) := by simp [rxL]
theorem rxL_len (l : List RcX) : (rxL l).length = l.length * 3 := by
  induction l with
  | nil => rfl
  | cons x l ih => simp [rxL, rxC, rcC] at ih ⊢; omega
theorem rxOwn_snoc (l : List RcX) (x : RcX) : rxOwn (l ++ [x]) = rxOwn l ++ [rowP 71 3 x.2.1 x.1.2.2.length x.2.2 (rpL x.1.2.2)] := by simp [rxOwn]
section
variable {q r S t n : Nat} {a : AD} {F : List Nat} {w0 w : World} {X : List A}
theorem Dr.read_64 (h : Dr q a F w0 w X) {i : Int} (h0 : (a.read i).2 = 0) : (a.read i).1.data.toList.length = 64 := by
  obtain ⟨D, _, hA, _⟩ := h
  show (a.read i).1.size = 64
  have hm : a.may i = 0 := by
    unfold AD.read at h0
    by_cases hm : a.may i = 0
    · exact hm
    · rw [if_pos hm] at h0; exact absurd h0 hm
  obtain ⟨l0, l1⟩ := AD.may_zero hm
  unfold AD.read at h0 ⊢
  rw [if_neg (by omega)] at h0 ⊢
  by_cases hs : a.spoilt i.toNat = true
  · rw [if_pos hs] at h0; cases h0
  rw [if_neg hs]
  have hs : ∀ s ∈ a.safe, s.size = 64 := by rw [← hA.safe]; exact hA.ok.s64
  have hp : ∀ s ∈ a.pend i.toNat, s.size = 64 := by
    rw [← hA.pend i.toNat]
    unfold pendW
    cases hf : D.ws.find? fun e => e.k == ((i.toNat : Nat) : Int) with
    | none => intro s hs; cases hs
    | some e => exact hA.ok.w64 e (List.mem_of_find?_eq_some hf)
  show (a.top i.toNat).size = 64
  unfold AD.top
  split
  · rename_i s he
    exact hp s (List.mem_of_getLast? he)
  · have hi : i.toNat < a.safe.length := by omega
    rw [List.getD_eq_getElem?_getD, List.getElem?_eq_getElem hi]
    exact hs _ (List.getElem_mem hi)
theorem open_ring (h : Dr q a F w0 w X) (hF : a.Few 1000000) (hlen : a.safe.length ≤ 4096) :
    Calls Tryz.prog 12 #[.pointer (some ⟨q, 0, none⟩)] w fun e w' =>
      ((openF a).2 ≠ 0 ∧ e = .returned (.tuple #[.pointer none, .slice none 0 0, .int .i64 (openF a).2]) ∧ Dr q a F w0 w' X) ∨
      ((openF a).2 = 0 ∧ 1 ≤ (slotsN (a.safe.length : Int)).toNat ∧ ∃ r g cap lx, e = .returned (.tuple #[.pointer (some ⟨r, 0, none⟩), .slice (ptr g) (lx : List RcX).length cap, .int .i64 0]) ∧ lx.map (·.1) = recsF a (slotsN (a.safe.length : Int)).toNat (slotsN (a.safe.length : Int)).toNat (((openF a).1 + 1) % 2 ^ 64) ∧
        Dr q a F w0 w' (blk r (rgC q (slotsN (a.safe.length : Int)).toNat (openF a).1 (((openF a).1 + 1 + lx.length) % 2 ^ 64)) 87 :: rowP 95 3 g lx.length cap (rxL lx) :: (rxOwn lx ++ X))) := by
  let R : Value → World → Prop := fun v w' => ((openF a).2 ≠ 0 ∧ v = (.tuple #[.pointer none, .slice none 0 0, .int .i64 (openF a).2]) ∧ Dr q a F w0 w' X) ∨
      ((openF a).2 = 0 ∧ 1 ≤ (slotsN (a.safe.length : Int)).toNat ∧ ∃ r g cap lx, v = (.tuple #[.pointer (some ⟨r, 0, none⟩), .slice (ptr g) (lx : List RcX).length cap, .int .i64 0]) ∧ lx.map (·.1) = recsF a (slotsN (a.safe.length : Int)).toNat (slotsN (a.safe.length : Int)).toNat (((openF a).1 + 1) % 2 ^ 64) ∧
        Dr q a F w0 w' (blk r (rgC q (slotsN (a.safe.length : Int)).toNat (openF a).1 (((openF a).1 + 1 + lx.length) % 2 ^ 64)) 87 :: rowP 95 3 g lx.length cap (rxL lx) :: (rxOwn lx ++ X)))
  refine (ring_Open_calls (R := R) ?_).mono fun e w' ⟨v, he, hv⟩ => ?_
  · have bad : ∀ (w' : World) (Δ : List A) (x : Int), Dr q a F w0 w' (Δ ++ X) → x ≠ 0 → (openF a).2 = x → R (.tuple #[.pointer none, .slice none 0 0, .int .i64 x]) w' := fun w' Δ x hh hx he => .inl ⟨by rw [he]; exact hx, by rw [he], Dr.back hh⟩
    obtain ⟨S, hS⟩ : ∃ S : Nat, slotsN (a.safe.length : Int) = (S : Int) := ⟨(slotsN (a.safe.length : Int)).toNat, by unfold slotsN; omega⟩
    have hS99 : S ≤ 99 := by unfold slotsN at hS; omega
    have hof : openF a = if (a.read 3).2 ≠ 0 then (0, (a.read 3).2)
      else if (openB (a.read 3).1.data.toList).2 = false ∨ (S : Int) = 0 then (0, 200)
      else if markB (leN (((openB (a.read 3).1.data.toList).1.drop 4).take 8)) ≠ (a.read 3).1.data.toList then (0, 200)
      else (leN (((openB (a.read 3).1.data.toList).1.drop 4).take 8), 0) := by unfold openF; rw [hS]
    have hgood : ∀ (v : Value) (w' : World) (t : Nat), openF a = (t, 0) → 1 ≤ S → (∃ r g cap lx, v = (.tuple #[.pointer (some ⟨r, 0, none⟩), .slice (ptr g) (lx : List RcX).length cap, .int .i64 0]) ∧ lx.map (·.1) = recsF a S S ((t + 1) % 2 ^ 64) ∧ Dr q a F w0 w' (blk r (rgC q S t ((t + 1 + lx.length) % 2 ^ 64)) 87 :: rowP 95 3 g lx.length cap (rxL lx) :: (rxOwn lx ++ X))) → R v w' := by
      intro v w' t ht h1 hv
      refine .inr ⟨by rw [ht], by rw [hS]; omega, ?_⟩
      rw [ht, hS]
      exact hv
    clear_value R
    unfold ring_Open
    refine (read_a h hF 3).mono fun e w1 ⟨he1, hx1⟩ => ⟨_, _, he1, ?_⟩
    have h1 := h.quiet hx1
    have h64 := h1.read_64 (i := 3)
    rw [← strB_data (a.read 3).1]
    generalize (a.read 3).1.data.toList = b at hof h64
    generalize (a.read 3).2 = er at hof h64
    refine ⟨bne_t fun hne => bad w1 [] er h1 hne (by rw [hof, if_pos hne]), bne_f fun heq => ?_⟩
    rw [if_neg (fun hn => hn heq)] at hof
    have h64 := h64 heq
    refine (sectors_spec h1).mono fun e w2 ⟨he2, hx2⟩ => ⟨_, he2, ?_⟩
    refine (slots_spec (a.safe.length : Int) (by omega) (by omega) w2).mono fun e w3 ⟨he3, hx3⟩ => ⟨_, he3, ?_⟩
    rw [hS]
    refine Dr.alloc ((h1.quiet hx2).quiet hx3) fun r w4 h4 => ?_
    have h4 : Dr q a F w0 w4 (blk r (rgC q S 0 0) 87 :: X) := h4
    refine (open_spec (strB b) (by rw [strB_size]; omega) w4).mono fun e w5 ⟨he5, hx5⟩ => ⟨_, _, he5, ?_⟩
    have eb : (strB b).data.toList = b := rfl
    rw [eb]
    have h5 := h4.quiet hx5
    refine ⟨not_t fun ho => bad w5 [_] 200 h5 (by decide) (by rw [hof, if_pos (Or.inl ho)]), not_f fun ho => ?_⟩
    refine ⟨_, rfl, (S : Int), by rw [addr_add]; exact h5.under.ld (c := rgC q S 0 0) List.mem_cons_self rfl, ?_⟩
    refine ⟨beq_t fun h0 => bad w5 [_] 200 h5 (by decide) (by rw [hof, if_pos (Or.inr h0)]), beq_f fun hn0 => ?_⟩
    rw [if_neg (by rw [ho]; simp; omega)] at hof
    rw [openB_take h64 ho] at hof ⊢
    have hl60 : (b.take 60).length = 60 := by rw [List.length_take]; omega
    have s1 := slice_mid (P := Tryz.prog) (t := 9) (k := .i64) (k' := .i64) (s := strB (b.take 60)) (lo := 4) (hi := 12) (w := w5) (by kernel_rfl) (by omega) (by omega) (by rw [strB_size, hl60]; omega)
    rw [strB_extract] at s1
    have e1 : (((b.take 60).drop (4 : Int).toNat).take ((12 : Int).toNat - (4 : Int).toNat)) = ((b.take 60).drop 4).take 8 := rfl
    rw [e1] at s1
    refine ⟨_, w5, s1, ?_⟩
    have hl8 : (((b.take 60).drop 4).take 8).length = 8 := by rw [List.length_take, List.length_drop]; omega
    generalize ((b.take 60).drop 4).take 8 = l8 at hof hl8
    have ht64 : leN l8 < 2 ^ 64 := by
      have := leN_lt l8
      rw [hl8] at this
      have q8 : (256 : Nat) ^ 8 = 2 ^ 64 := by decide
      omega
    refine Dr.alloc h5 fun k46 w7 h7 => ?_
    have h7 : Dr q a F w0 w7 (rowP 3 1 (some k46) 1 1 (ints [8]) :: blk r (rgC q S 0 0) 87 :: X) := Dr.blkRow h7 rfl rfl (by decide)
    refine Dr.intoT (Y := []) h7 fun Γ hT hback => ?_
    refine (decode_spec (ws := [8]) rwid8 (s := strB l8) (by rw [strB_size, hl8]; rfl) hT (g2 := some k46) (n2 := 1) (c2 := 1) rfl List.mem_cons_self).mono fun e w8 ⟨bd, he8, hT8⟩ => ⟨_, _, _, _, he8, ?_⟩
    have ed : decP (strB l8).data.toList [8] = [leN l8] := by
      show [leN (l8.take 8)] = _
      rw [List.take_of_length_le (by omega)]
    rw [ed] at hT8
    have h8 := hback w8 [_] hT8
    generalize leN l8 = t at hof ht64 hT8 h8
    have h8 : Dr q a F w0 w8 (rowP 57 1 (some bd) 1 1 (u64s [t]) :: rowP 3 1 (some k46) 1 1 (ints [8]) :: blk r (rgC q S 0 0) 87 :: X) := h8
    refine ⟨bne_t fun hne => absurd rfl hne, bne_f fun _ => ?_⟩
    refine ⟨_, rfl, by omega, by decide, _, rowP.cell (k := 0) (h8.under.says List.mem_cons_self) rfl, ?_⟩
    refine (mark_spec ht64 w8).mono fun e w9 ⟨he9, hx9⟩ => ⟨_, he9, ?_⟩
    have h9 := h8.quiet hx9
    rw [strB_toList, strB_toList]
    refine ⟨not_t fun hm => bad w9 [_, _, _] 200 h9 (by decide) (by rw [hof, if_pos (by simpa using hm)]), not_f fun hm => ?_⟩
    rw [if_neg (by simpa using hm)] at hof
    have h9d := Dr.rdrew h9
    have cellU : ∀ {w' : World} {Δ : List A}, Dr q a F w0 w' Δ → rowP 57 1 (some bd) 1 1 (u64s [t]) ∈ Δ → w'.cell? ⟨bd, 0, none⟩ = some (.int .u64 (t : Int)) := fun hh hm => rowP.cell (k := 0) (hh.under.says hm) rfl
    refine ⟨fun w' => ∃ Δ, rowP 57 1 (some bd) 1 1 (u64s [t]) ∈ Δ ∧ Dr q a F w0 w' Δ, ⟨_, List.mem_cons_self, h9d⟩, _, rfl, by omega, by decide, (t : Int), fun w' ⟨Δ, hm', h'⟩ => cellU h' hm', _, rfl, by omega, by decide, (t : Int), fun w' ⟨Δ, hm', h'⟩ => cellU h' hm', _, rfl, ?_⟩
    have h9p := Dr.perm h9d (X' := blk r (rgC q S 0 0) 87 :: rowP 57 1 (some bd) 1 1 (u64s [t]) :: rowP 3 1 (some k46) 1 1 (ints [8]) :: X) ((List.perm_middle (l₁ := [_, _]) (l₂ := X)))
    rw [addr_add]
    refine Dr.st1 (c' := rgC q S t 0) h9p (show 0 + 2 < 4 by decide) rfl rfl fun w10 h10 => ⟨⟨_, List.mem_cons_of_mem _ List.mem_cons_self, h10⟩, _, rfl, ?_⟩
    rw [addr_add]
    have ew : IntKind.u64.wrap ((t : Int) + 1) = (((t + 1) % 2 ^ 64 : Nat) : Int) := by rw [wrapU64]; omega
    rw [ew]
    refine Dr.st1 (c' := rgC q S t ((t + 1) % 2 ^ 64)) h10 (show 0 + 3 < 4 by decide) rfl rfl fun w11 h11 => ?_
    refine Join.intro fun J hJ => ?_
    refine ⟨fun vs w' => ∃ (lx : List RcX) (g : Option Nat) (cap : Nat), vs = [.slice (ptr g) lx.length cap] ∧ lx.length ≤ S ∧ recsF a S S ((t + 1) % 2 ^ 64) = lx.map (·.1) ++ recsF a S (S - lx.length) ((t + 1 + lx.length) % 2 ^ 64) ∧ Dr q a F w0 w' (rowP 95 3 g lx.length cap (rxL lx) :: blk r (rgC q S t ((t + 1 + lx.length) % 2 ^ 64)) 87 :: (rxOwn lx ++ X)), fun vs _ => match vs with | [.slice _ l _] => S - l | _ => 0, ⟨[], none, 0, rfl, Nat.zero_le _, rfl, ?_⟩, ?_⟩
    · have hp := Dr.perm h11 (X' := rowP 57 1 (some bd) 1 1 (u64s [t]) :: rowP 3 1 (some k46) 1 1 (ints [8]) :: blk r (rgC q S t ((t + 1) % 2 ^ 64)) 87 :: X) ((List.perm_middle (l₁ := [_, _]) (l₂ := X)).symm)
      exact Dr.nilRow hp.dropX.dropX _ _
    rintro vs w13 ⟨lx, g, cap, rfl, hlx, hrs, h13⟩
    have hfin : ∀ (w' : World), recsF a S (S - lx.length) ((t + 1 + lx.length) % 2 ^ 64) = [] → Dr q a F w0 w' (rowP 95 3 g lx.length cap (rxL lx) :: blk r (rgC q S t ((t + 1 + lx.length) % 2 ^ 64)) 87 :: (rxOwn lx ++ X)) → J [.slice (ptr g) lx.length cap] w' := by
      intro w' he hh
      refine hJ _ _ ⟨_, _, _, rfl, hgood _ _ t hof (by omega) ⟨r, g, cap, lx, rfl, by rw [hrs, he, List.append_nil], Dr.perm hh (.swap _ _ _)⟩⟩
    refine ⟨_, _, _, rfl, _, rfl, (S : Int), by rw [addr_add]; exact h13.under.ld (c := rgC q S t ((t + 1 + lx.length) % 2 ^ 64)) (List.mem_cons_of_mem _ List.mem_cons_self) rfl, dec_t fun hlt => ?_, dec_f fun hge => ?_⟩
    · have hlt : lx.length < S := by omega
      refine ⟨_, rfl, _, by rw [addr_add]; exact h13.under.ld (c := rgC q S t ((t + 1 + lx.length) % 2 ^ 64)) (List.mem_cons_of_mem _ List.mem_cons_self) rfl, ?_⟩
      have hmlt : (t + 1 + lx.length) % 2 ^ 64 < 2 ^ 64 := Nat.mod_lt _ (by decide)
      have hrec := record_spec h13 (List.mem_cons_of_mem _ List.mem_cons_self) hF (by omega) (by omega) hmlt
      have hone : recsF a S (S - lx.length) ((t + 1 + lx.length) % 2 ^ 64) = if (recF a S ((t + 1 + lx.length) % 2 ^ 64)).2 then (recF a S ((t + 1 + lx.length) % 2 ^ 64)).1 :: recsF a S (S - (lx.length + 1)) ((t + 1 + (lx.length + 1)) % 2 ^ 64) else [] := by
        obtain ⟨k, hk⟩ : ∃ k, S - lx.length = k + 1 := ⟨S - lx.length - 1, by omega⟩
        rw [hk, show S - (lx.length + 1) = k by omega, show (t + 1 + (lx.length + 1)) % 2 ^ 64 = ((t + 1 + lx.length) % 2 ^ 64 + 1) % 2 ^ 64 by omega]
        rfl
      generalize recF a S ((t + 1 + lx.length) % 2 ^ 64) = d at hrec hone
      obtain ⟨⟨sq, row, ps⟩, ok⟩ := d
      refine hrec.mono fun e w14 ⟨gp, cp, he14, h14⟩ => ⟨_, _, _, _, _, _, he14, ?_⟩
      have h14 : Dr q a F w0 w14 (rowP 71 3 gp ps.length cp (rpL ps) :: rowP 95 3 g lx.length cap (rxL lx) :: blk r (rgC q S t ((t + 1 + lx.length) % 2 ^ 64)) 87 :: (rxOwn lx ++ X)) := h14
      refine Dr.alloc h14 fun k13 w15 h15 => Dr.st1 (c := zR) (c' := #[.int .u64 (sq : Int), .int .i64 0, .slice none 0 0]) h15 (show 0 < 3 by decide) rfl rfl fun w16 h16 => Dr.st1 (c' := #[.int .u64 (sq : Int), .int .i64 row, .slice none 0 0]) h16 (show 1 < 3 by decide) rfl rfl fun w17 h17 => Dr.st1 (c' := rcC sq row (ptr gp) ps.length cp) h17 (show 2 < 3 by decide) rfl rfl fun w18 h18 => ?_
      refine ⟨not_t fun ho => hfin w18 (by rw [hone]; exact if_neg (by rw [show ok = false from ho]; simp)) h18.dropX.dropX, not_f fun ho => ?_⟩
      have ho : ok = true := ho
      subst ho
      have hone : recsF a S (S - lx.length) ((t + 1 + lx.length) % 2 ^ 64) = (sq, row, ps) :: recsF a S (S - (lx.length + 1)) ((t + 1 + (lx.length + 1)) % 2 ^ 64) := hone
      refine ⟨_, _, _, _, _, ⟨h18.under.ld (c := rcC sq row (ptr gp) ps.length cp) List.mem_cons_self rfl, h18.under.ld (c := rcC sq row (ptr gp) ps.length cp) (i := 1) List.mem_cons_self rfl, h18.under.ld (c := rcC sq row (ptr gp) ps.length cp) (i := 2) List.mem_cons_self rfl⟩, ?_⟩
      refine Dr.pushN (t := 35) (i := Tryz.t95) (z := .agg #[.int .u64 0, .int .i64 0, .slice none 0 0]) (c := rcC sq row (ptr gp) ps.length cp) (size := 3) (by kernel_rfl) (by kernel_rfl) (by kernel_rfl) (by kernel_rfl) (by kernel_rfl) (by kernel_rfl) h18 (.tail (.tail .head)) rfl (fun u hu => ?_) (by omega) fun g' cap' w20 h20 => ?_
      · have hu : u ∈ [Value.int .u64 (sq : Int), .int .i64 row, .slice (ptr gp) ps.length cp] := hu
        simp only [List.mem_cons, List.not_mem_nil, or_false] at hu
        rcases hu with rfl | rfl | rfl <;> rfl
      · have hsn : rxL lx ++ (rcC sq row (ptr gp) ps.length cp).toList = rxL (lx ++ [((sq, row, ps), gp, cp)]) := rxL_snoc lx ((sq, row, ps), gp, cp)
        rw [hsn] at h20
        refine ⟨_, rfl, _, by rw [addr_add]; exact h20.under.ld (c := rgC q S t ((t + 1 + lx.length) % 2 ^ 64)) (List.mem_cons_of_mem _ (List.mem_cons_of_mem _ (List.mem_cons_of_mem _ List.mem_cons_self))) rfl, _, rfl, ?_⟩
        have h20p := Dr.perm h20 (X' := blk r (rgC q S t ((t + 1 + lx.length) % 2 ^ 64)) 87 :: rowP 95 3 g' (lx.length + 1) cap' (rxL (lx ++ [((sq, row, ps), gp, cp)])) :: blk k13 (rcC sq row (ptr gp) ps.length cp) 95 :: rowP 71 3 gp ps.length cp (rpL ps) :: (rxOwn lx ++ X)) (List.perm_middle (l₁ := [_, _, _]) (l₂ := rxOwn lx ++ X))
        rw [addr_add]
        have ew : IntKind.u64.wrap ((((t + 1 + lx.length) % 2 ^ 64 : Nat) : Int) + 1) = (((t + 1 + (lx.length + 1)) % 2 ^ 64 : Nat) : Int) := by rw [wrapU64]; omega
        rw [ew]
        refine Dr.st1 (c' := rgC q S t ((t + 1 + (lx.length + 1)) % 2 ^ 64)) h20p (show 0 + 3 < 4 by decide) rfl rfl fun w21 h21 => ?_
        have hl1 : (lx ++ [((sq, row, ps), gp, cp)]).length = lx.length + 1 := by rw [List.length_append]; rfl
        refine ⟨⟨lx ++ [((sq, row, ps), gp, cp)], g', cap', by rw [hl1], by rw [hl1]; omega, by rw [hrs, hone, hl1, List.map_append, List.append_assoc]; rfl, ?_⟩, ?_⟩
        · rw [hl1, rxOwn_snoc]
          have p1 := (Dr.perm h21 (List.perm_middle (l₁ := [_, _]))).dropX
          refine Dr.perm p1 ((List.Perm.swap _ _ _).trans (List.Perm.cons _ (List.Perm.cons _ ?_)))
          rw [List.append_assoc]
          exact List.perm_middle.symm
        · show S - (lx.length + 1) < S - lx.length
          omega
    · exact hfin w13 (by rw [show S - lx.length = 0 by omega]; rfl) h13
  · rcases hv with ⟨h1, h2, h3⟩ | ⟨h1, h2, r, g, cap, lx, h3, h4⟩
    · exact .inl ⟨h1, by rw [he, h2], h3⟩
    · exact .inr ⟨h1, h2, r, g, cap, lx, by rw [he, h3], h4⟩
end
end Go.Proofs.YtbecjmfcppginaaGreat
end
section
/-! super: superblocks as values; when two are the same. -/
namespace Go.Proofs.YtbecjmfcppginaaGreat
open Go.Sh Go.RowKit
set_option linter.unusedVariables false
set_option maxRecDepth 20000
set_option maxHeartbeats 1000000
structure SupV where
  uuid : Int
  events : Int
  role : Int
  cols : Int
  chunk : Int
  rows : Int
  clean : Bool
  built : Int
  new : Int
  grown : Int
deriving DecidableEq
def supC (a : SupV) : Array Value := #[.int .u64 a.uuid, .int .u64 a.events, .int .i64 a.role, .int .i64 a.cols, .int .i64 a.chunk, .int .i64 a.rows, .bool a.clean, .int .i64 a.built, .int .i64 a.new, .int .i64 a.grown]
abbrev sup0 : SupV := ⟨0, 0, 0, 0, 0, 0, false, 0, 0, 0⟩
theorem pt0 (a : SupV) (w : World) : (part 57 (supC a) 0).run Tryz.prog w = .ok (.int .u64 a.uuid) w := by kernel_rfl
theorem pt1 (a : SupV) (w : World) : (part 57 (supC a) 1).run Tryz.prog w = .ok (.int .u64 a.events) w := by kernel_rfl
theorem pt2 (a : SupV) (w : World) : (part 3 (supC a) 2).run Tryz.prog w = .ok (.int .i64 a.role) w := by kernel_rfl
theorem pt6 (a : SupV) (w : World) : (part 4 (supC a) 6).run Tryz.prog w = .ok (.bool a.clean) w := by kernel_rfl
theorem pt7 (a : SupV) (w : World) : (part 3 (supC a) 7).run Tryz.prog w = .ok (.int .i64 a.built) w := by kernel_rfl
theorem pt8 (a : SupV) (w : World) : (part 3 (supC a) 8).run Tryz.prog w = .ok (.int .i64 a.new) w := by kernel_rfl
theorem pt9 (a : SupV) (w : World) : (part 3 (supC a) 9).run Tryz.prog w = .ok (.int .i64 a.grown) w := by kernel_rfl
theorem pg0 (a b c : Int) (w : World) : (part 3 #[.int .i64 a, .int .i64 b, .int .i64 c] 0).run Tryz.prog w = .ok (.int .i64 a) w := by kernel_rfl
theorem pg1 (a b c : Int) (w : World) : (part 3 #[.int .i64 a, .int .i64 b, .int .i64 c] 1).run Tryz.prog w = .ok (.int .i64 b) w := by kernel_rfl
theorem pg2 (a b c : Int) (w : World) : (part 3 #[.int .i64 a, .int .i64 b, .int .i64 c] 2).run Tryz.prog w = .ok (.int .i64 c) w := by kernel_rfl
theorem eq_u64 (d : Nat) (w : World) (a b : Int) : (Op.equalIn (d + 1) 57 (.int .u64 a) (.int .u64 b)).run Tryz.prog w = .ok (a == b) w := run_equalIn_int w d 57 .u64 .u64 a b (by kernel_rfl)
theorem eq_int (d : Nat) (w : World) (a b : Int) : (Op.equalIn (d + 1) 3 (.int .i64 a) (.int .i64 b)).run Tryz.prog w = .ok (a == b) w := run_equalIn_int w d 3 .i64 .i64 a b (by kernel_rfl)
theorem eq_bool (d : Nat) (w : World) (a b : Bool) : (Op.equalIn (d + 1) 4 (.bool a) (.bool b)).run Tryz.prog w = .ok (a == b) w := run_equalIn_bool' w d 4 a b (by kernel_rfl)
theorem eqStep {P : Program} {w : World} {d : Nat} {xs ys : Array Value} {fs : List Field} {a b : Value} {r : Bool} (nm : String) (ty : TypeId) (o : Nat) (e : Bool) (s1 s2 : String) (by_ : Nat) (hf : nm ≠ "_") (ha : (part ty xs o).run P w = .ok a w) (hb : (part ty ys o).run P w = .ok b w) (he : (Op.equalIn d ty a b).run P w = .ok r w)
    {q : Bool} (hr : (Op.eqFields d xs ys fs).run P w = .ok q w) : (Op.eqFields d xs ys (Field.mk nm ty o e s1 s2 by_ :: fs)).run P w = .ok (r && q) w := by
  simp only [Op.eqFields, if_pos hf, Sem.run_bind, ha, hb, he, Result.andThen_ok]
  cases r
  · simp
  · simp [hr]
theorem eqNil {P : Program} {w : World} {d : Nat} {xs ys : Array Value} : (Op.eqFields d xs ys []).run P w = .ok true w := by simp [Op.eqFields]
end Go.Proofs.YtbecjmfcppginaaGreat
end
