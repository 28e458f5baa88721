import Derived.Test.YtdppllkjibfjcaaRd3
/-! the reference's drive: Flush, Crash, Off, New. -/
namespace Go.Proofs.Ytdppllkjibfjcaa
open Go.Sh Go.Maps Go.RowKit
set_option linter.unusedVariables false
set_option maxHeartbeats 1000000
set_option maxRecDepth 20000
def cnt (pend : Nat → List ByteArray) : Nat → Nat → Nat
  | _, 0 => 0
  | i, n + 1 => (if pend i = [] then 0 else 1) + cnt pend (i + 1) n
theorem cnt_snoc (pend : Nat → List ByteArray) : ∀ (n i : Nat), cnt pend i (n + 1) = cnt pend i n + if pend (i + n) = [] then 0 else 1
  | 0, i => by simp [cnt]
  | n + 1, i => by
    have h := cnt_snoc pend n (i + 1)
    rw [show i + 1 + n = i + (n + 1) by omega] at h
    show (if pend i = [] then 0 else 1) + cnt pend (i + 1) (n + 1) = (if pend i = [] then 0 else 1) + cnt pend (i + 1) n + _
    rw [h]
    omega
theorem cnt_le (pend : Nat → List ByteArray) : ∀ (n i : Nat), cnt pend i n ≤ n
  | 0, i => Nat.le_refl _
  | n + 1, i => by
    have h := cnt_le pend n (i + 1)
    show (if pend i = [] then 0 else 1) + cnt pend (i + 1) n ≤ n + 1
    split <;> omega
theorem keptFrom_snoc (g : Nat → Nat → Nat) (pend : Nat → List ByteArray) (s : ByteArray) : ∀ (l : List ByteArray) (i k : Nat),
    keptFrom g pend i k (l ++ [s]) = keptFrom g pend i k l ++ [if pend (i + l.length) = [] then s else if 0 < g (k + cnt pend i l.length) (pend (i + l.length)).length then (pend (i + l.length)).getD (g (k + cnt pend i l.length) (pend (i + l.length)).length - 1) noB else s]
  | [], i, k => by
    simp only [List.nil_append, keptFrom, List.length_nil, Nat.add_zero, cnt]
    split <;> rfl
  | x :: l, i, k => by
    have h1 := keptFrom_snoc g pend s l (i + 1) k
    have h2 := keptFrom_snoc g pend s l (i + 1) (k + 1)
    rw [show i + 1 + l.length = i + (x :: l).length by simp; omega] at h1 h2
    simp only [List.cons_append, keptFrom]
    have hc : cnt pend i (x :: l).length = (if pend i = [] then 0 else 1) + cnt pend (i + 1) l.length := rfl
    by_cases hp : pend i = []
    · rw [if_pos hp, if_pos hp, h1, hc, if_pos hp, Nat.zero_add]; rfl
    · rw [if_neg hp, if_neg hp, h2, hc, if_neg hp, show k + 1 + cnt pend (i + 1) l.length = k + (1 + cnt pend (i + 1) l.length) by omega]; rfl
/-- the first i sectors are settled -/
def AD.part (a : AD) (g : Nat → Nat → Nat) (i : Nat) : AD := { a with safe := keptFrom g a.pend 0 0 (a.safe.take i) ++ a.safe.drop i, pend := fun j => if j < i then [] else a.pend j }
theorem part_zero (a : AD) (g : Nat → Nat → Nat) : a.part g 0 = a := by
  unfold AD.part
  simp [keptFrom]
theorem part_len (a : AD) (g : Nat → Nat → Nat) (i : Nat) : (a.part g i).safe.length = a.safe.length := by
  simp [AD.part, keptFrom_len]; omega
theorem part_step (a : AD) (g : Nat → Nat → Nat) {i : Nat} (hi : i < a.safe.length) : a.part g (i + 1) = keepA (a.part g i) i (if a.pend i = [] then 0 else g (cnt a.pend 0 i) (a.pend i).length) := by
  have hpi : (a.part g i).pend i = a.pend i := by simp [AD.part]
  have hpend : (fun j => if j < i + 1 then [] else a.pend j) = fun j => if j = i then ([] : List ByteArray) else if j < i then [] else a.pend j := by
    funext j
    by_cases h1 : j = i
    · subst h1; simp
    · by_cases h2 : j < i
      · rw [if_pos (by omega), if_neg h1, if_pos h2]
      · rw [if_neg (by omega), if_neg h1, if_neg h2]
  have htake : a.safe.take (i + 1) = a.safe.take i ++ [a.safe[i]] := by rw [List.take_add_one, List.getElem?_eq_getElem hi]; rfl
  have hdrop : a.safe.drop i = a.safe[i] :: a.safe.drop (i + 1) := by rw [List.drop_eq_getElem_cons hi]
  have hlt : (a.safe.take i).length = i := by rw [List.length_take]; omega
  have hkl : (keptFrom g a.pend 0 0 (a.safe.take i)).length = i := by rw [keptFrom_len, hlt]
  have hsafe : keptFrom g a.pend 0 0 (a.safe.take (i + 1)) ++ a.safe.drop (i + 1) = if 0 < (if a.pend i = [] then 0 else g (cnt a.pend 0 i) (a.pend i).length) then (keptFrom g a.pend 0 0 (a.safe.take i) ++ a.safe.drop i).set i ((a.pend i).getD ((if a.pend i = [] then 0 else g (cnt a.pend 0 i) (a.pend i).length) - 1) noB) else keptFrom g a.pend 0 0 (a.safe.take i) ++ a.safe.drop i := by
    rw [htake, keptFrom_snoc, hlt, Nat.zero_add, Nat.zero_add, hdrop, List.append_assoc]
    by_cases hp : a.pend i = []
    · simp only [hp, if_true, Nat.lt_irrefl, if_false]; rfl
    · simp only [hp, if_false]
      split
      · rw [List.set_append_right _ _ (by omega), hkl, Nat.sub_self, List.set_cons_zero]; rfl
      · rfl
  unfold keepA
  rw [hpi]
  show AD.mk _ _ _ _ _ = AD.mk _ _ _ _ _
  rw [hpend, hsafe]
  rfl
theorem part_skip (a : AD) (g : Nat → Nat → Nat) {i : Nat} (hi : i < a.safe.length) (hp : a.pend i = []) : a.part g (i + 1) = a.part g i := by
  rw [part_step a g hi, if_pos hp]
  unfold keepA
  have : (fun j => if j = i then [] else (a.part g i).pend j) = (a.part g i).pend := by
    funext j
    by_cases h1 : j = i
    · subst h1; simp [AD.part, hp]
    · rw [if_neg h1]
  rw [this]
  simp
theorem part_end {R : RL} {a : AD} {g : Nat → Nat → Nat} (h : RAbs R (a.part g a.safe.length)) : RAbs R (a.settle g) := by
  have hs : (a.part g a.safe.length).safe = keptFrom g a.pend 0 0 a.safe := by simp [AD.part]
  have hl : (a.settle g).safe.length = a.safe.length := by show (keptFrom g a.pend 0 0 a.safe).length = _; rw [keptFrom_len]
  have hw := h.wl
  have hpl := h.pl
  rw [part_len] at hw hpl
  refine ⟨by rw [hl, ← part_len a g a.safe.length]; exact h.n1, by rw [h.safe, hs]; rfl, by rw [hl]; exact hw, fun j e he => ?_, by rw [hl]; exact hpl, h.sp, h.dead, h.power⟩
  have hj := (List.getElem?_eq_some_iff.1 he).1
  rw [h.ws j e he]
  show (if j < a.safe.length then [] else a.pend j) = []
  rw [if_pos (by omega)]
theorem part_few {a : AD} {N : Nat} (h : a.Few N) (g : Nat → Nat → Nat) (i : Nat) : (a.part g i).Few N := by
  intro j
  show (if j < i then [] else a.pend j).length ≤ N
  split
  · exact Nat.zero_le _
  · exact h j
theorem rflush_r {p : Nat} {a : AD} {F : List Nat} {w0 w : World} {X : List A} (h : Rf p a F w0 w X) (hF : a.Few 1000000) :
    Calls Try.prog 27 #[.pointer (some ⟨p, 0, none⟩)] w fun e w' => e = .returned (.int .i64 a.flush1) ∧ Rf p a.flush F w0 w' X := by
  have h0 := h
  obtain ⟨R, rfl, hA, hT⟩ := h
  refine (revetmentref04_Drive_Flush_calls (R := fun v w' => v = .int .i64 a.flush1 ∧ Rf R.p a.flush F w0 w' X) ?_).mono fun e w' ⟨v, he, hv, ht⟩ => ⟨hv ▸ he, ht⟩
  unfold revetmentref04_Drive_Flush
  have hd := hA.dead
  have fail : ∀ n, a.flush1 = n → n ≠ 0 → ∀ w1, Ext w w1 → Value.int .i64 n = .int .i64 a.flush1 ∧ Rf R.p a.flush F w0 w1 X := fun n hn h1 w1 hx => by
    refine ⟨by rw [hn], ?_⟩
    unfold AD.flush
    rw [if_pos (by rw [hn]; exact h1)]
    exact h0.quiet hx
  refine ⟨_, rfl, _, hT.ldA (by first | exact List.Mem.head _ | exact List.Mem.tail _ (List.Mem.head _) | exact List.Mem.tail _ (List.Mem.tail _ (List.Mem.head _)) | exact List.Mem.tail _ (List.Mem.tail _ (List.Mem.tail _ (List.Mem.head _))) | exact List.Mem.tail _ (List.Mem.tail _ (List.Mem.tail _ (List.Mem.tail _ (List.Mem.head _)))) | exact List.Mem.tail _ (List.Mem.tail _ (List.Mem.tail _ (List.Mem.tail _ (List.Mem.tail _ (List.Mem.head _))))) | exact List.Mem.tail _ (List.Mem.tail _ (List.Mem.tail _ (List.Mem.tail _ (List.Mem.tail _ (List.Mem.tail _ (List.Mem.head _)))))) | exact List.Mem.tail _ (List.Mem.tail _ (List.Mem.tail _ (List.Mem.tail _ (List.Mem.tail _ (List.Mem.tail _ (List.Mem.tail _ (List.Mem.head _))))))) | exact List.Mem.tail _ (List.Mem.tail _ (List.Mem.tail _ (List.Mem.tail _ (List.Mem.tail _ (List.Mem.tail _ (List.Mem.tail _ (List.Mem.tail _ (List.Mem.head _)))))))) | exact List.Mem.tail _ (List.Mem.tail _ (List.Mem.tail _ (List.Mem.tail _ (List.Mem.tail _ (List.Mem.tail _ (List.Mem.tail _ (List.Mem.tail _ (List.Mem.tail _ (List.Mem.head _))))))))) | exact List.Mem.tail _ (List.Mem.tail _ (List.Mem.tail _ (List.Mem.tail _ (List.Mem.tail _ (List.Mem.tail _ (List.Mem.tail _ (List.Mem.tail _ (List.Mem.tail _ (List.Mem.tail _ (List.Mem.head _)))))))))) | exact List.Mem.tail _ (List.Mem.tail _ (List.Mem.tail _ (List.Mem.tail _ (List.Mem.tail _ (List.Mem.tail _ (List.Mem.tail _ (List.Mem.tail _ (List.Mem.tail _ (List.Mem.tail _ (List.Mem.tail _ (List.Mem.head _)))))))))))) rfl, fun hc => fail 40 (by unfold AD.flush1; rw [if_pos (by rw [← hd]; exact hc)]) (by decide) _ (.refl w), fun hc => ?_⟩
  have hnd : ¬ a.dead = true := by rw [← hd, hc]; simp
  refine (roff_r h0).mono fun e w1 ⟨he, hx⟩ => ⟨_, he, fun ho => fail 42 (by unfold AD.flush1; rw [if_neg hnd, if_pos ho]) (by decide) _ hx, fun ho => ?_⟩
  have hz : a.flush1 = 0 := by unfold AD.flush1; rw [if_neg hnd, if_neg (by rw [ho]; simp)]
  refine (ruse_r (hT.quiet hx)).mono fun e w2 ⟨he, hT2⟩ => ⟨he, ?_⟩
  have hA1 : RAbs { R with left := if R.cut then IntKind.i64.wrap (R.left - 1) else R.left } { a with power := a.power.map (· - 1) } := ⟨hA.n1, hA.safe, hA.wl, hA.ws, hA.pl, hA.sp, hA.dead, hA.left ho⟩
  have h2 : Rf R.p { a with power := a.power.map (· - 1) } F w0 w2 X := ⟨{ R with left := if R.cut then IntKind.i64.wrap (R.left - 1) else R.left }, rfl, hA1, hT2⟩
  rw [hz, AD.flush_of hz]
  have hF1 : ({ a with power := a.power.map (· - 1) } : AD).Few 1000000 := hF
  generalize ({ a with power := a.power.map (· - 1) } : AD) = b at h2 hF1
  clear hA1 hT2 hA hT
  refine ⟨fun vs w' => ∃ i : Nat, vs = [.int .i64 i] ∧ i ≤ b.safe.length ∧ b.safe.length ≤ 4096 ∧ Rf R.p (b.part (fun _ m => m) i) F w0 w' X, fun vs _ => match vs with | [.int _ i] => (5000 - i).toNat | _ => 0, ⟨0, rfl, by omega, (by obtain ⟨_, _, hA, _⟩ := h2; exact hA.n1), by rw [part_zero]; exact h2⟩, ?_⟩
  rintro vs w3 ⟨i, rfl, hib, hn1, hR⟩
  have hR0 := hR
  obtain ⟨R3, hp3, hA3, hT3⟩ := hR
  have hwl := hA3.wl
  rw [part_len] at hwl
  refine ⟨_, rfl, ⟨R3.p, 0, none⟩, by rw [hp3], _, _, _, hT3.ldA (by first | exact List.Mem.head _ | exact List.Mem.tail _ (List.Mem.head _) | exact List.Mem.tail _ (List.Mem.tail _ (List.Mem.head _)) | exact List.Mem.tail _ (List.Mem.tail _ (List.Mem.tail _ (List.Mem.head _))) | exact List.Mem.tail _ (List.Mem.tail _ (List.Mem.tail _ (List.Mem.tail _ (List.Mem.head _)))) | exact List.Mem.tail _ (List.Mem.tail _ (List.Mem.tail _ (List.Mem.tail _ (List.Mem.tail _ (List.Mem.head _))))) | exact List.Mem.tail _ (List.Mem.tail _ (List.Mem.tail _ (List.Mem.tail _ (List.Mem.tail _ (List.Mem.tail _ (List.Mem.head _)))))) | exact List.Mem.tail _ (List.Mem.tail _ (List.Mem.tail _ (List.Mem.tail _ (List.Mem.tail _ (List.Mem.tail _ (List.Mem.tail _ (List.Mem.head _))))))) | exact List.Mem.tail _ (List.Mem.tail _ (List.Mem.tail _ (List.Mem.tail _ (List.Mem.tail _ (List.Mem.tail _ (List.Mem.tail _ (List.Mem.tail _ (List.Mem.head _)))))))) | exact List.Mem.tail _ (List.Mem.tail _ (List.Mem.tail _ (List.Mem.tail _ (List.Mem.tail _ (List.Mem.tail _ (List.Mem.tail _ (List.Mem.tail _ (List.Mem.tail _ (List.Mem.head _))))))))) | exact List.Mem.tail _ (List.Mem.tail _ (List.Mem.tail _ (List.Mem.tail _ (List.Mem.tail _ (List.Mem.tail _ (List.Mem.tail _ (List.Mem.tail _ (List.Mem.tail _ (List.Mem.tail _ (List.Mem.head _)))))))))) | exact List.Mem.tail _ (List.Mem.tail _ (List.Mem.tail _ (List.Mem.tail _ (List.Mem.tail _ (List.Mem.tail _ (List.Mem.tail _ (List.Mem.tail _ (List.Mem.tail _ (List.Mem.tail _ (List.Mem.tail _ (List.Mem.head _)))))))))))) rfl, dec_t fun hlt => ?_, dec_f fun hge => ⟨rfl, R3, hp3, ?_, hT3⟩⟩
  · have hi : i < b.safe.length := by omega
    have hw : i < R3.ws.length := by omega
    obtain ⟨q, hq, hc⟩ := T.row1 (i := i) (v := (R3.ws[i]).val) hT3 (show rowP 22 1 R3.gw R3.ws.length R3.cw (R3.ws.map RW.val) ∈ _ from (by first | exact List.Mem.head _ | exact List.Mem.tail _ (List.Mem.head _) | exact List.Mem.tail _ (List.Mem.tail _ (List.Mem.head _)) | exact List.Mem.tail _ (List.Mem.tail _ (List.Mem.tail _ (List.Mem.head _))) | exact List.Mem.tail _ (List.Mem.tail _ (List.Mem.tail _ (List.Mem.tail _ (List.Mem.head _)))) | exact List.Mem.tail _ (List.Mem.tail _ (List.Mem.tail _ (List.Mem.tail _ (List.Mem.tail _ (List.Mem.head _))))) | exact List.Mem.tail _ (List.Mem.tail _ (List.Mem.tail _ (List.Mem.tail _ (List.Mem.tail _ (List.Mem.tail _ (List.Mem.head _)))))) | exact List.Mem.tail _ (List.Mem.tail _ (List.Mem.tail _ (List.Mem.tail _ (List.Mem.tail _ (List.Mem.tail _ (List.Mem.tail _ (List.Mem.head _))))))) | exact List.Mem.tail _ (List.Mem.tail _ (List.Mem.tail _ (List.Mem.tail _ (List.Mem.tail _ (List.Mem.tail _ (List.Mem.tail _ (List.Mem.tail _ (List.Mem.head _)))))))) | exact List.Mem.tail _ (List.Mem.tail _ (List.Mem.tail _ (List.Mem.tail _ (List.Mem.tail _ (List.Mem.tail _ (List.Mem.tail _ (List.Mem.tail _ (List.Mem.tail _ (List.Mem.head _))))))))) | exact List.Mem.tail _ (List.Mem.tail _ (List.Mem.tail _ (List.Mem.tail _ (List.Mem.tail _ (List.Mem.tail _ (List.Mem.tail _ (List.Mem.tail _ (List.Mem.tail _ (List.Mem.tail _ (List.Mem.head _)))))))))) | exact List.Mem.tail _ (List.Mem.tail _ (List.Mem.tail _ (List.Mem.tail _ (List.Mem.tail _ (List.Mem.tail _ (List.Mem.tail _ (List.Mem.tail _ (List.Mem.tail _ (List.Mem.tail _ (List.Mem.tail _ (List.Mem.head _))))))))))))) (by rw [List.getElem?_map, List.getElem?_eq_getElem hw]; rfl)
    have hws := hA3.ws i _ (List.getElem?_eq_getElem hw)
    have hpi : (b.part (fun _ m => m) i).pend i = b.pend i := by simp [AD.part]
    rw [hpi] at hws
    refine ⟨⟨R3.p, 0, none⟩, by rw [hp3], _, _, _, hT3.ldA (by first | exact List.Mem.head _ | exact List.Mem.tail _ (List.Mem.head _) | exact List.Mem.tail _ (List.Mem.tail _ (List.Mem.head _)) | exact List.Mem.tail _ (List.Mem.tail _ (List.Mem.tail _ (List.Mem.head _))) | exact List.Mem.tail _ (List.Mem.tail _ (List.Mem.tail _ (List.Mem.tail _ (List.Mem.head _)))) | exact List.Mem.tail _ (List.Mem.tail _ (List.Mem.tail _ (List.Mem.tail _ (List.Mem.tail _ (List.Mem.head _))))) | exact List.Mem.tail _ (List.Mem.tail _ (List.Mem.tail _ (List.Mem.tail _ (List.Mem.tail _ (List.Mem.tail _ (List.Mem.head _)))))) | exact List.Mem.tail _ (List.Mem.tail _ (List.Mem.tail _ (List.Mem.tail _ (List.Mem.tail _ (List.Mem.tail _ (List.Mem.tail _ (List.Mem.head _))))))) | exact List.Mem.tail _ (List.Mem.tail _ (List.Mem.tail _ (List.Mem.tail _ (List.Mem.tail _ (List.Mem.tail _ (List.Mem.tail _ (List.Mem.tail _ (List.Mem.head _)))))))) | exact List.Mem.tail _ (List.Mem.tail _ (List.Mem.tail _ (List.Mem.tail _ (List.Mem.tail _ (List.Mem.tail _ (List.Mem.tail _ (List.Mem.tail _ (List.Mem.tail _ (List.Mem.head _))))))))) | exact List.Mem.tail _ (List.Mem.tail _ (List.Mem.tail _ (List.Mem.tail _ (List.Mem.tail _ (List.Mem.tail _ (List.Mem.tail _ (List.Mem.tail _ (List.Mem.tail _ (List.Mem.tail _ (List.Mem.head _)))))))))) | exact List.Mem.tail _ (List.Mem.tail _ (List.Mem.tail _ (List.Mem.tail _ (List.Mem.tail _ (List.Mem.tail _ (List.Mem.tail _ (List.Mem.tail _ (List.Mem.tail _ (List.Mem.tail _ (List.Mem.tail _ (List.Mem.head _)))))))))))) (by rw [hq]; rfl), _, rfl, by omega, by omega, _, _, _, hc, ?_⟩
    have hk := rkeep_r hR0 (part_few hF1 _ i) (i := i) (n := (b.pend i).length) (by rw [part_len]; exact hi) (by rw [hpi]; exact Nat.le_refl _)
    rw [hws]
    refine hk.mono fun e w4 ⟨he, h4⟩ => ⟨he, ⟨i + 1, by rw [wrap64 _ (by omega) (by omega)]; rfl, by omega, hn1, ?_⟩, ?_⟩
    · rw [part_step b _ hi]
      have : (if b.pend i = [] then 0 else (fun _ m => m) (cnt b.pend 0 i) (b.pend i).length) = (b.pend i).length := by
        split
        · rename_i h; rw [h]; rfl
        · rfl
      rw [this]
      exact h4
    · show ((5000 : Int) - IntKind.i64.wrap ((i : Int) + 1)).toNat < ((5000 : Int) - (i : Int)).toNat
      rw [wrap64 _ (by omega) (by omega)]; omega
  · have hi : i = b.safe.length := by omega
    rw [hi] at hA3
    exact part_end hA3
theorem rcrash_r {p : Nat} {a : AD} {F : List Nat} {w0 w : World} {X : List A} (h : Rf p a F w0 w X) (hF : a.Few 1000000) (keep : List UInt8) (q : Option Addr) (c : Nat) (hkl : keep.length ≤ 1000000)
    (hk : ∀ w1, T F w0 w1 X → bytesAt w1 q keep) :
    Calls Try.prog 42 #[.pointer (some ⟨p, 0, none⟩), .slice q keep.length c] w fun e w' => e = .returned (.tuple #[]) ∧ Rf p (a.crash keep) F w0 w' X := by
  obtain ⟨R, rfl, hA, hT⟩ := h
  refine (revetmentref04_Drive_Crash_calls (R := fun v w' => v = .tuple #[] ∧ Rf R.p (a.crash keep) F w0 w' X) ?_).mono fun e w' ⟨v, he, hv, ht⟩ => ⟨hv ▸ he, ht⟩
  unfold revetmentref04_Drive_Crash
  refine ⟨_, rfl, ?_⟩
  refine St.tA hT .head (by simp) (by rfl) rfl fun w1 hT1 => ?_
  have hT1' : T F w0 w1 (refL { R with cut := false } ++ X) := hT1
  have h2 : Rf R.p { a with power := none } F w0 w1 X := ⟨{ R with cut := false }, rfl, ⟨hA.n1, hA.safe, hA.wl, hA.ws, hA.pl, hA.sp, hA.dead, rfl⟩, hT1'⟩
  have hF1 : ({ a with power := none } : AD).Few 1000000 := hF
  have hcr : a.crash keep = ({ a with power := none } : AD).settle (keepG keep) := rfl
  rw [hcr]
  generalize ({ a with power := none } : AD) = b at h2 hF1
  clear hT1' hT1 hA hT
  refine ⟨fun vs w' => ∃ i : Nat, vs = [.int .i64 (cnt b.pend 0 i), .int .i64 i] ∧ i ≤ b.safe.length ∧ b.safe.length ≤ 4096 ∧ Rf R.p (b.part (keepG keep) i) F w0 w' X, fun vs _ => match vs with | [_, .int _ i] => (5000 - i).toNat | _ => 0, ⟨0, rfl, by omega, (by obtain ⟨_, _, hA, _⟩ := h2; exact hA.n1), by rw [part_zero]; exact h2⟩, ?_⟩
  rintro vs w3 ⟨i, rfl, hib, hn1, hR⟩
  have hR0 := hR
  obtain ⟨R3, hp3, hA3, hT3⟩ := hR
  have hwl := hA3.wl
  rw [part_len] at hwl
  refine ⟨_, _, rfl, ⟨R3.p, 0, none⟩, by rw [hp3], _, _, _, hT3.ldA (by first | exact List.Mem.head _ | exact List.Mem.tail _ (List.Mem.head _) | exact List.Mem.tail _ (List.Mem.tail _ (List.Mem.head _)) | exact List.Mem.tail _ (List.Mem.tail _ (List.Mem.tail _ (List.Mem.head _))) | exact List.Mem.tail _ (List.Mem.tail _ (List.Mem.tail _ (List.Mem.tail _ (List.Mem.head _)))) | exact List.Mem.tail _ (List.Mem.tail _ (List.Mem.tail _ (List.Mem.tail _ (List.Mem.tail _ (List.Mem.head _))))) | exact List.Mem.tail _ (List.Mem.tail _ (List.Mem.tail _ (List.Mem.tail _ (List.Mem.tail _ (List.Mem.tail _ (List.Mem.head _)))))) | exact List.Mem.tail _ (List.Mem.tail _ (List.Mem.tail _ (List.Mem.tail _ (List.Mem.tail _ (List.Mem.tail _ (List.Mem.tail _ (List.Mem.head _))))))) | exact List.Mem.tail _ (List.Mem.tail _ (List.Mem.tail _ (List.Mem.tail _ (List.Mem.tail _ (List.Mem.tail _ (List.Mem.tail _ (List.Mem.tail _ (List.Mem.head _)))))))) | exact List.Mem.tail _ (List.Mem.tail _ (List.Mem.tail _ (List.Mem.tail _ (List.Mem.tail _ (List.Mem.tail _ (List.Mem.tail _ (List.Mem.tail _ (List.Mem.tail _ (List.Mem.head _))))))))) | exact List.Mem.tail _ (List.Mem.tail _ (List.Mem.tail _ (List.Mem.tail _ (List.Mem.tail _ (List.Mem.tail _ (List.Mem.tail _ (List.Mem.tail _ (List.Mem.tail _ (List.Mem.tail _ (List.Mem.head _)))))))))) | exact List.Mem.tail _ (List.Mem.tail _ (List.Mem.tail _ (List.Mem.tail _ (List.Mem.tail _ (List.Mem.tail _ (List.Mem.tail _ (List.Mem.tail _ (List.Mem.tail _ (List.Mem.tail _ (List.Mem.tail _ (List.Mem.head _)))))))))))) rfl, dec_t fun hlt => ?_, dec_f fun hge => ⟨rfl, R3, hp3, ?_, hT3⟩⟩
  · have hi : i < b.safe.length := by omega
    have hw : i < R3.ws.length := by omega
    obtain ⟨q1, hq, hc⟩ := T.row1 (i := i) (v := (R3.ws[i]).val) hT3 (show rowP 22 1 R3.gw R3.ws.length R3.cw (R3.ws.map RW.val) ∈ _ from (by first | exact List.Mem.head _ | exact List.Mem.tail _ (List.Mem.head _) | exact List.Mem.tail _ (List.Mem.tail _ (List.Mem.head _)) | exact List.Mem.tail _ (List.Mem.tail _ (List.Mem.tail _ (List.Mem.head _))) | exact List.Mem.tail _ (List.Mem.tail _ (List.Mem.tail _ (List.Mem.tail _ (List.Mem.head _)))) | exact List.Mem.tail _ (List.Mem.tail _ (List.Mem.tail _ (List.Mem.tail _ (List.Mem.tail _ (List.Mem.head _))))) | exact List.Mem.tail _ (List.Mem.tail _ (List.Mem.tail _ (List.Mem.tail _ (List.Mem.tail _ (List.Mem.tail _ (List.Mem.head _)))))) | exact List.Mem.tail _ (List.Mem.tail _ (List.Mem.tail _ (List.Mem.tail _ (List.Mem.tail _ (List.Mem.tail _ (List.Mem.tail _ (List.Mem.head _))))))) | exact List.Mem.tail _ (List.Mem.tail _ (List.Mem.tail _ (List.Mem.tail _ (List.Mem.tail _ (List.Mem.tail _ (List.Mem.tail _ (List.Mem.tail _ (List.Mem.head _)))))))) | exact List.Mem.tail _ (List.Mem.tail _ (List.Mem.tail _ (List.Mem.tail _ (List.Mem.tail _ (List.Mem.tail _ (List.Mem.tail _ (List.Mem.tail _ (List.Mem.tail _ (List.Mem.head _))))))))) | exact List.Mem.tail _ (List.Mem.tail _ (List.Mem.tail _ (List.Mem.tail _ (List.Mem.tail _ (List.Mem.tail _ (List.Mem.tail _ (List.Mem.tail _ (List.Mem.tail _ (List.Mem.tail _ (List.Mem.head _)))))))))) | exact List.Mem.tail _ (List.Mem.tail _ (List.Mem.tail _ (List.Mem.tail _ (List.Mem.tail _ (List.Mem.tail _ (List.Mem.tail _ (List.Mem.tail _ (List.Mem.tail _ (List.Mem.tail _ (List.Mem.tail _ (List.Mem.head _))))))))))))) (by rw [List.getElem?_map, List.getElem?_eq_getElem hw]; rfl)
    have hws := hA3.ws i _ (List.getElem?_eq_getElem hw)
    have hpi : (b.part (keepG keep) i).pend i = b.pend i := by simp [AD.part]
    rw [hpi] at hws
    have wr : IntKind.i64.wrap ((i : Int) + 1) = ((i + 1 : Nat) : Int) := by rw [wrap64 _ (by omega) (by omega)]; omega
    have hcl := cnt_le b.pend i 0
    have meas : ((5000 : Int) - ((i + 1 : Nat) : Int)).toNat < ((5000 : Int) - (i : Int)).toNat := by omega
    refine ⟨⟨R3.p, 0, none⟩, by rw [hp3], _, _, _, hT3.ldA (by first | exact List.Mem.head _ | exact List.Mem.tail _ (List.Mem.head _) | exact List.Mem.tail _ (List.Mem.tail _ (List.Mem.head _)) | exact List.Mem.tail _ (List.Mem.tail _ (List.Mem.tail _ (List.Mem.head _))) | exact List.Mem.tail _ (List.Mem.tail _ (List.Mem.tail _ (List.Mem.tail _ (List.Mem.head _)))) | exact List.Mem.tail _ (List.Mem.tail _ (List.Mem.tail _ (List.Mem.tail _ (List.Mem.tail _ (List.Mem.head _))))) | exact List.Mem.tail _ (List.Mem.tail _ (List.Mem.tail _ (List.Mem.tail _ (List.Mem.tail _ (List.Mem.tail _ (List.Mem.head _)))))) | exact List.Mem.tail _ (List.Mem.tail _ (List.Mem.tail _ (List.Mem.tail _ (List.Mem.tail _ (List.Mem.tail _ (List.Mem.tail _ (List.Mem.head _))))))) | exact List.Mem.tail _ (List.Mem.tail _ (List.Mem.tail _ (List.Mem.tail _ (List.Mem.tail _ (List.Mem.tail _ (List.Mem.tail _ (List.Mem.tail _ (List.Mem.head _)))))))) | exact List.Mem.tail _ (List.Mem.tail _ (List.Mem.tail _ (List.Mem.tail _ (List.Mem.tail _ (List.Mem.tail _ (List.Mem.tail _ (List.Mem.tail _ (List.Mem.tail _ (List.Mem.head _))))))))) | exact List.Mem.tail _ (List.Mem.tail _ (List.Mem.tail _ (List.Mem.tail _ (List.Mem.tail _ (List.Mem.tail _ (List.Mem.tail _ (List.Mem.tail _ (List.Mem.tail _ (List.Mem.tail _ (List.Mem.head _)))))))))) | exact List.Mem.tail _ (List.Mem.tail _ (List.Mem.tail _ (List.Mem.tail _ (List.Mem.tail _ (List.Mem.tail _ (List.Mem.tail _ (List.Mem.tail _ (List.Mem.tail _ (List.Mem.tail _ (List.Mem.tail _ (List.Mem.head _)))))))))))) (by rw [hq]; rfl), _, rfl, by omega, by omega, _, _, _, hc, ?_⟩
    rw [hws, wr]
    have hfl := hF1 i
    refine ⟨beq_t fun hz => ?_, beq_f fun hz => ?_⟩
    · have hpn : b.pend i = [] := List.eq_nil_of_length_eq_zero (by omega)
      refine ⟨⟨i + 1, ?_, by omega, hn1, by rw [part_skip b _ hi hpn]; exact hR0⟩, meas⟩
      rw [cnt_snoc, Nat.zero_add, if_pos hpn]; rfl
    · have hpn : b.pend i ≠ [] := by intro h; rw [h] at hz; simp at hz
      refine Join.intro fun J hJ => ?_
      have go : J [.int .i64 (keepG keep (cnt b.pend 0 i) (b.pend i).length)] w3 := by
        refine hJ _ _ ⟨_, rfl, ?_⟩
        have hk := rkeep_r hR0 (part_few hF1 _ i) (i := i) (n := keepG keep (cnt b.pend 0 i) (b.pend i).length) (by rw [part_len]; exact hi) (by rw [hpi]; exact keepG_le _ _ _)
        refine hk.mono fun e w4 ⟨he, h4⟩ => ⟨he, ⟨i + 1, ?_, by omega, hn1, ?_⟩, meas⟩
        · rw [cnt_snoc, Nat.zero_add, if_neg hpn, wrap64 _ (by omega) (by omega)]; rfl
        · rw [part_step b _ hi, if_neg hpn]
          exact h4
      refine ⟨dec_t fun h0 => ?_, dec_f fun h0 => ?_⟩
      · have hb := hk w3 (T.dropAll hT3)
        have hne : keep ≠ [] := by intro e; rw [e] at h0; simp at h0
        obtain ⟨ad, had⟩ := hb.1 hne
        have hlt2 : cnt b.pend 0 i % keep.length < keep.length := Nat.mod_lt _ (by omega)
        have htm : Int.tmod (cnt b.pend 0 i : Int) (keep.length : Int) = ((cnt b.pend 0 i % keep.length : Nat) : Int) := by rw [Int.tmod_eq_emod_of_nonneg (by omega)]; omega
        have h8 : (keep[cnt b.pend 0 i % keep.length]).toNat < 256 := (keep[cnt b.pend 0 i % keep.length]).toNat_lt
        have wm : IntKind.i64.wrap (((b.pend i).length : Int) + 1) = (((b.pend i).length + 1 : Nat) : Int) := by rw [wrap64 _ (by omega) (by omega)]; omega
        rw [wm, htm]
        refine ⟨by omega, ad, had, by omega, by omega, ((keep[cnt b.pend 0 i % keep.length]).toNat : Int), ?_, by omega, ?_⟩
        · rw [show ((cnt b.pend 0 i % keep.length : Nat) : Int).toNat * 1 = cnt b.pend 0 i % keep.length by omega]
          exact hb.2 ad had _ _ (List.getElem?_eq_getElem hlt2)
        · rw [wrap64 _ (by omega) (by omega), Int.tmod_eq_emod_of_nonneg (by omega)]
          have e1 : keepG keep (cnt b.pend 0 i) (b.pend i).length = (keep[cnt b.pend 0 i % keep.length]).toNat % ((b.pend i).length + 1) := by
            unfold keepG
            rw [if_neg (by omega), List.getD_eq_getElem?_getD, List.getElem?_eq_getElem hlt2]; rfl
          rw [e1] at go
          have e2 : (((keep[cnt b.pend 0 i % keep.length]).toNat : Int) % (((b.pend i).length + 1 : Nat) : Int)) = (((keep[cnt b.pend 0 i % keep.length]).toNat % ((b.pend i).length + 1) : Nat) : Int) := by push_cast; rfl
          rw [e2]
          exact go
      · have e1 : keepG keep (cnt b.pend 0 i) (b.pend i).length = 0 := by unfold keepG; rw [if_pos (by omega)]
        rw [e1] at go
        exact go
  · have hi : i = b.safe.length := by omega
    rw [hi] at hA3
    exact part_end hA3
theorem roff_set {p : Nat} {a : AD} {F : List Nat} {w0 w : World} {X : List A} (h : Rf p a F w0 w X) (n : Int) (hn : n ≤ 9223372036854775807) :
    Calls Try.prog 57 #[.pointer (some ⟨p, 0, none⟩), .int .i64 n] w fun e w' => e = .returned (.tuple #[]) ∧ Rf p (a.setOff n) F w0 w' X := by
  obtain ⟨R, rfl, hA, hT⟩ := h
  refine (revetmentref04_Drive_Off_calls (R := fun v w' => v = .tuple #[] ∧ Rf R.p (a.setOff n) F w0 w' X) ?_).mono fun e w' ⟨v, he, hv, ht⟩ => ⟨hv ▸ he, ht⟩
  unfold revetmentref04_Drive_Off
  refine ⟨_, rfl, ?_⟩
  refine St.tA hT .head (by simp) (by rfl) rfl fun w1 hT1 => ⟨_, _, max_run _ _ _ _ _ _, _, rfl, ?_⟩
  refine St.tA hT1 .head (by simp) (by rfl) rfl fun w2 hT2 => ⟨rfl, { R with cut := true, left := if 0 > n then 0 else n }, rfl, ⟨hA.n1, hA.safe, hA.wl, hA.ws, hA.pl, hA.sp, hA.dead, ?_⟩, hT2⟩
  simp only [AD.setOff]
  refine ⟨trivial, ?_, by omega⟩
  split <;> omega
/-- r.Gone = true -/
theorem rgone {p : Nat} {a : AD} {F : List Nat} {w0 w : World} {X : List A} {K : World → Prop} (h : Rf p a F w0 w X) (hK : ∀ w', Rf p a.die F w0 w' X → K w') : St (Addr.add ⟨p, 0, none⟩ 3) (.bool true) w K := by
  obtain ⟨R, rfl, hA, hT⟩ := h
  exact St.tA hT .head (by simp) (by rfl) rfl fun w1 hT1 => hK w1 ⟨{ R with gone := true }, rfl, ⟨hA.n1, hA.safe, hA.wl, hA.ws, hA.pl, hA.sp, rfl, hA.power⟩, hT1⟩
theorem push_t {P : Program} {F : List Nat} {w0 w : World} {Γ Δ : List A} {t e : TypeId} {i : TypeInfo} {z v : Value} (ht : P.underlying t = some (.slice e)) (hi : P.info? e = some i) (hz : i.zero = some z) (hsize : i.size = 1) (hzs : z.cells.size = 1) (hby : decide (i.bytes ≤ 1000000) = true)
    {g : Option Nat} {n cap : Nat} {xs : List Value} (hT : T F w0 w Γ) (hk : Pick (rowP e 1 g n cap xs) Γ Δ) (hv : v.oneCell' = true) (hn : n ≤ 1000000) {K : Option Addr → Nat → Nat → World → Prop} (hK : ∀ g' cap' w', T F w0 w' (rowP e 1 g' (n + 1) cap' (xs ++ [v]) :: Δ) → K (ptr g') (n + 1) cap' w') :
    Alloc #[v] e w fun k w1 => ∃ (p : Option Addr) (l c : Nat), ∃ w2, (builtin .append #[t, t] t #[false, false] #[.slice (ptr g) n cap, .slice (some ⟨k, 0, none⟩) 1 1]).run P w1 = .ok (.value (.slice p l c)) w2 ∧ K p l c w2 := by
  refine Alloc.t hT fun k w1 hT1 => ?_
  have hby' : i.bytes ≤ 1000000 := of_decide_eq_true hby
  have hmul : (n + 1) * i.bytes ≤ 1000001 * 1000000 := Nat.mul_le_mul (by omega) hby'
  obtain ⟨g', cap', w', hr, hT'⟩ := append_t (ty := t) #[false, false] ht hi hz hsize hzs hT1 (.tail hk) (a := ⟨k, 0, none⟩) (m := 1) (c := 1) (news := [v]) rfl (fun j u hu => by
      rw [addr_add, Nat.zero_add]
      exact hT1.ld (by first | exact List.Mem.head _ | exact List.Mem.tail _ (List.Mem.head _) | exact List.Mem.tail _ (List.Mem.tail _ (List.Mem.head _)) | exact List.Mem.tail _ (List.Mem.tail _ (List.Mem.tail _ (List.Mem.head _))) | exact List.Mem.tail _ (List.Mem.tail _ (List.Mem.tail _ (List.Mem.tail _ (List.Mem.head _)))) | exact List.Mem.tail _ (List.Mem.tail _ (List.Mem.tail _ (List.Mem.tail _ (List.Mem.tail _ (List.Mem.head _))))) | exact List.Mem.tail _ (List.Mem.tail _ (List.Mem.tail _ (List.Mem.tail _ (List.Mem.tail _ (List.Mem.tail _ (List.Mem.head _)))))) | exact List.Mem.tail _ (List.Mem.tail _ (List.Mem.tail _ (List.Mem.tail _ (List.Mem.tail _ (List.Mem.tail _ (List.Mem.tail _ (List.Mem.head _))))))) | exact List.Mem.tail _ (List.Mem.tail _ (List.Mem.tail _ (List.Mem.tail _ (List.Mem.tail _ (List.Mem.tail _ (List.Mem.tail _ (List.Mem.tail _ (List.Mem.head _)))))))) | exact List.Mem.tail _ (List.Mem.tail _ (List.Mem.tail _ (List.Mem.tail _ (List.Mem.tail _ (List.Mem.tail _ (List.Mem.tail _ (List.Mem.tail _ (List.Mem.tail _ (List.Mem.head _))))))))) | exact List.Mem.tail _ (List.Mem.tail _ (List.Mem.tail _ (List.Mem.tail _ (List.Mem.tail _ (List.Mem.tail _ (List.Mem.tail _ (List.Mem.tail _ (List.Mem.tail _ (List.Mem.tail _ (List.Mem.head _)))))))))) | exact List.Mem.tail _ (List.Mem.tail _ (List.Mem.tail _ (List.Mem.tail _ (List.Mem.tail _ (List.Mem.tail _ (List.Mem.tail _ (List.Mem.tail _ (List.Mem.tail _ (List.Mem.tail _ (List.Mem.tail _ (List.Mem.head _)))))))))))) (by simpa using hu)) (fun u hu => by obtain rfl := List.mem_singleton.1 hu; exact hv) (by simp only [maxLen]; omega) (by omega)
  exact ⟨_, _, _, w', hr, hK g' cap' w' (T.drop (hT'.swap (.swap _ _ _)))⟩
theorem perm4b {α : Type} (d c b a : α) (l : List α) : (d :: c :: b :: a :: l).Perm (a :: b :: c :: d :: l) := by
  have h1 := List.reverse_perm [a, b, c, d]
  exact h1.append_right l
theorem rnew_r (n : Nat) {F : List Nat} {w0 w : World} {X : List A} (hT : T F w0 w X) (hn : 1 ≤ n ∧ n ≤ 4096) :
    Calls Try.prog 25 #[.int .i64 n] w fun e w' => ∃ p, e = .returned (.pointer (some ⟨p, 0, none⟩)) ∧ Rf p (AD.new n) F w0 w' X := by
  refine (revetmentref04_New_calls (R := fun v w' => ∃ p, v = .pointer (some ⟨p, 0, none⟩) ∧ Rf p (AD.new n) F w0 w' X) ?_).mono fun e w' ⟨v, he, p, hv, ht⟩ => ⟨p, hv ▸ he, ht⟩
  unfold revetmentref04_New
  refine ⟨dec_t fun h => absurd h (by omega), dec_f fun _ => ⟨dec_t fun h => absurd h (by omega), dec_f fun _ => ?_⟩⟩
  refine Alloc.t hT fun k w1 hT1 => (blank_spec w1).mono fun e w2 ⟨he, hx⟩ => ⟨_, he, ?_⟩
  have nils : ∀ m : Nat, (List.replicate m (⟨none, 0, []⟩ : RW)).map RW.row = List.replicate m (RW.row ⟨none, 0, []⟩) := fun m => by simp
  have hT2 : T F w0 w2 (refL ⟨k, none, 0, none, 0, none, 0, [], [], [], false, false, 0⟩ ++ X) := ((((hT1.quiet hx).swap (.refl _)).nilRow 4 1).nilRow 22 1).nilRow 9 1 |>.swap (by
    exact (List.perm_middle (l₁ := [rowP 9 1 none 0 0 [], rowP 22 1 none 0 0 [], rowP 4 1 none 0 0 []])))
  refine ⟨fun vs w' => ∃ (i : Nat) (gs gw gp : Option Nat) (cs cw cp : Nat), vs = [.int .i64 i] ∧ i ≤ n ∧ T F w0 w' (refL ⟨k, gs, cs, gw, cw, gp, cp, List.replicate i zeroSec, List.replicate i ⟨none, 0, []⟩, List.replicate i false, false, false, 0⟩ ++ X), fun vs _ => match vs with | [.int _ i] => (n - i).toNat | _ => 0, ⟨0, none, none, none, 0, 0, 0, rfl, by omega, hT2⟩, ?_⟩
  rintro vs w3 ⟨i, gs, gw, gp, cs, cw, cp, rfl, hin, hT3⟩
  refine ⟨_, rfl, dec_t fun hlt => ?_, dec_f fun hge => ⟨k, rfl, _, rfl, ?_, hT3⟩⟩
  · have wr : IntKind.i64.wrap ((i : Int) + 1) = ((i + 1 : Nat) : Int) := by rw [wrap64 _ (by omega) (by omega)]; omega
    rw [wr]
    have hk : refL ⟨k, gs, cs, gw, cw, gp, cp, List.replicate i zeroSec, List.replicate i ⟨none, 0, []⟩, List.replicate i false, false, false, 0⟩ = [blk k #[.slice (ptr gs) i cs, .slice (ptr gw) i cw, .slice (ptr gp) i cp, .bool false, .bool false, .int .i64 0] 48,
        rowP 9 1 gs i cs (List.replicate i (.string zeroSec)), rowP 22 1 gw i cw (List.replicate i (.slice none 0 0)), rowP 4 1 gp i cp (List.replicate i (.bool false))] ++ List.replicate i (RW.row ⟨none, 0, []⟩) := by
      simp only [refL, hdr, List.length_replicate, List.map_replicate]; rfl
    rw [hk] at hT3
    refine ⟨_, rfl, _, _, _, hT3.ld (by first | exact List.Mem.head _ | exact List.Mem.tail _ (List.Mem.head _) | exact List.Mem.tail _ (List.Mem.tail _ (List.Mem.head _)) | exact List.Mem.tail _ (List.Mem.tail _ (List.Mem.tail _ (List.Mem.head _))) | exact List.Mem.tail _ (List.Mem.tail _ (List.Mem.tail _ (List.Mem.tail _ (List.Mem.head _)))) | exact List.Mem.tail _ (List.Mem.tail _ (List.Mem.tail _ (List.Mem.tail _ (List.Mem.tail _ (List.Mem.head _))))) | exact List.Mem.tail _ (List.Mem.tail _ (List.Mem.tail _ (List.Mem.tail _ (List.Mem.tail _ (List.Mem.tail _ (List.Mem.head _)))))) | exact List.Mem.tail _ (List.Mem.tail _ (List.Mem.tail _ (List.Mem.tail _ (List.Mem.tail _ (List.Mem.tail _ (List.Mem.tail _ (List.Mem.head _))))))) | exact List.Mem.tail _ (List.Mem.tail _ (List.Mem.tail _ (List.Mem.tail _ (List.Mem.tail _ (List.Mem.tail _ (List.Mem.tail _ (List.Mem.tail _ (List.Mem.head _)))))))) | exact List.Mem.tail _ (List.Mem.tail _ (List.Mem.tail _ (List.Mem.tail _ (List.Mem.tail _ (List.Mem.tail _ (List.Mem.tail _ (List.Mem.tail _ (List.Mem.tail _ (List.Mem.head _))))))))) | exact List.Mem.tail _ (List.Mem.tail _ (List.Mem.tail _ (List.Mem.tail _ (List.Mem.tail _ (List.Mem.tail _ (List.Mem.tail _ (List.Mem.tail _ (List.Mem.tail _ (List.Mem.tail _ (List.Mem.head _)))))))))) | exact List.Mem.tail _ (List.Mem.tail _ (List.Mem.tail _ (List.Mem.tail _ (List.Mem.tail _ (List.Mem.tail _ (List.Mem.tail _ (List.Mem.tail _ (List.Mem.tail _ (List.Mem.tail _ (List.Mem.tail _ (List.Mem.head _)))))))))))) rfl, push_t (i := Try.t9) (z := .string (ByteArray.mk #[])) (by kernel_rfl) (by kernel_rfl) (by kernel_rfl) (by kernel_rfl) (by kernel_rfl) (by kernel_rfl) hT3 (.tail .head) rfl (by omega) fun g1 c1 w4 hT4 => ⟨_, rfl, ?_⟩⟩
    refine St.t hT4 (.tail .head) (by simp) (by rfl) rfl fun w5 hT5 => ⟨_, rfl, _, _, _, hT5.ldA (by first | exact List.Mem.head _ | exact List.Mem.tail _ (List.Mem.head _) | exact List.Mem.tail _ (List.Mem.tail _ (List.Mem.head _)) | exact List.Mem.tail _ (List.Mem.tail _ (List.Mem.tail _ (List.Mem.head _))) | exact List.Mem.tail _ (List.Mem.tail _ (List.Mem.tail _ (List.Mem.tail _ (List.Mem.head _)))) | exact List.Mem.tail _ (List.Mem.tail _ (List.Mem.tail _ (List.Mem.tail _ (List.Mem.tail _ (List.Mem.head _))))) | exact List.Mem.tail _ (List.Mem.tail _ (List.Mem.tail _ (List.Mem.tail _ (List.Mem.tail _ (List.Mem.tail _ (List.Mem.head _)))))) | exact List.Mem.tail _ (List.Mem.tail _ (List.Mem.tail _ (List.Mem.tail _ (List.Mem.tail _ (List.Mem.tail _ (List.Mem.tail _ (List.Mem.head _))))))) | exact List.Mem.tail _ (List.Mem.tail _ (List.Mem.tail _ (List.Mem.tail _ (List.Mem.tail _ (List.Mem.tail _ (List.Mem.tail _ (List.Mem.tail _ (List.Mem.head _)))))))) | exact List.Mem.tail _ (List.Mem.tail _ (List.Mem.tail _ (List.Mem.tail _ (List.Mem.tail _ (List.Mem.tail _ (List.Mem.tail _ (List.Mem.tail _ (List.Mem.tail _ (List.Mem.head _))))))))) | exact List.Mem.tail _ (List.Mem.tail _ (List.Mem.tail _ (List.Mem.tail _ (List.Mem.tail _ (List.Mem.tail _ (List.Mem.tail _ (List.Mem.tail _ (List.Mem.tail _ (List.Mem.tail _ (List.Mem.head _)))))))))) | exact List.Mem.tail _ (List.Mem.tail _ (List.Mem.tail _ (List.Mem.tail _ (List.Mem.tail _ (List.Mem.tail _ (List.Mem.tail _ (List.Mem.tail _ (List.Mem.tail _ (List.Mem.tail _ (List.Mem.tail _ (List.Mem.head _)))))))))))) rfl, ?_⟩
    refine push_t (i := Try.t22) (z := .slice none 0 0) (by kernel_rfl) (by kernel_rfl) (by kernel_rfl) (by kernel_rfl) (by kernel_rfl) (by kernel_rfl) hT5 (.tail (.tail .head)) rfl (by omega) fun g2 c2 w6 hT6 => ⟨_, rfl, ?_⟩
    refine St.tA hT6 (.tail (.tail .head)) (by simp) (by rfl) rfl fun w7 hT7 => ⟨_, rfl, _, _, _, hT7.ldA (by first | exact List.Mem.head _ | exact List.Mem.tail _ (List.Mem.head _) | exact List.Mem.tail _ (List.Mem.tail _ (List.Mem.head _)) | exact List.Mem.tail _ (List.Mem.tail _ (List.Mem.tail _ (List.Mem.head _))) | exact List.Mem.tail _ (List.Mem.tail _ (List.Mem.tail _ (List.Mem.tail _ (List.Mem.head _)))) | exact List.Mem.tail _ (List.Mem.tail _ (List.Mem.tail _ (List.Mem.tail _ (List.Mem.tail _ (List.Mem.head _))))) | exact List.Mem.tail _ (List.Mem.tail _ (List.Mem.tail _ (List.Mem.tail _ (List.Mem.tail _ (List.Mem.tail _ (List.Mem.head _)))))) | exact List.Mem.tail _ (List.Mem.tail _ (List.Mem.tail _ (List.Mem.tail _ (List.Mem.tail _ (List.Mem.tail _ (List.Mem.tail _ (List.Mem.head _))))))) | exact List.Mem.tail _ (List.Mem.tail _ (List.Mem.tail _ (List.Mem.tail _ (List.Mem.tail _ (List.Mem.tail _ (List.Mem.tail _ (List.Mem.tail _ (List.Mem.head _)))))))) | exact List.Mem.tail _ (List.Mem.tail _ (List.Mem.tail _ (List.Mem.tail _ (List.Mem.tail _ (List.Mem.tail _ (List.Mem.tail _ (List.Mem.tail _ (List.Mem.tail _ (List.Mem.head _))))))))) | exact List.Mem.tail _ (List.Mem.tail _ (List.Mem.tail _ (List.Mem.tail _ (List.Mem.tail _ (List.Mem.tail _ (List.Mem.tail _ (List.Mem.tail _ (List.Mem.tail _ (List.Mem.tail _ (List.Mem.head _)))))))))) | exact List.Mem.tail _ (List.Mem.tail _ (List.Mem.tail _ (List.Mem.tail _ (List.Mem.tail _ (List.Mem.tail _ (List.Mem.tail _ (List.Mem.tail _ (List.Mem.tail _ (List.Mem.tail _ (List.Mem.tail _ (List.Mem.head _)))))))))))) rfl, ?_⟩
    refine push_t (i := Try.t4) (z := .bool false) (by kernel_rfl) (by kernel_rfl) (by kernel_rfl) (by kernel_rfl) (by kernel_rfl) (by kernel_rfl) hT7 (.tail (.tail (.tail .head))) rfl (by omega) fun g3 c3 w8 hT8 => ⟨_, rfl, ?_⟩
    refine St.tA hT8 (.tail (.tail (.tail .head))) (by simp) (by rfl) rfl fun w9 hT9 => ⟨⟨i + 1, g1, g2, g3, c1, c2, c3, rfl, by omega, ?_⟩, ?_⟩
    · have hk2 : refL ⟨k, g1, c1, g2, c2, g3, c3, List.replicate (i + 1) zeroSec, List.replicate (i + 1) ⟨none, 0, []⟩, List.replicate (i + 1) false, false, false, 0⟩ = [blk k #[.slice (ptr g1) (i + 1) c1, .slice (ptr g2) (i + 1) c2, .slice (ptr g3) (i + 1) c3, .bool false, .bool false, .int .i64 0] 48,
          rowP 9 1 g1 (i + 1) c1 (List.replicate i (.string zeroSec) ++ [.string zeroSec]), rowP 22 1 g2 (i + 1) c2 (List.replicate i (.slice none 0 0) ++ [.slice none 0 0]), rowP 4 1 g3 (i + 1) c3 (List.replicate i (.bool false) ++ [.bool false])] ++ (RW.row ⟨none, 0, []⟩ :: List.replicate i (RW.row ⟨none, 0, []⟩)) := by
        simp only [refL, hdr, List.length_replicate, List.map_replicate, ← List.replicate_succ', ← List.replicate_succ]; rfl
      rw [hk2]
      refine (nil_row hT9).swap ?_
      refine List.Perm.trans ?_ (List.perm_middle (l₁ := [blk k #[.slice (ptr g1) (i + 1) c1, .slice (ptr g2) (i + 1) c2, .slice (ptr g3) (i + 1) c3, .bool false, .bool false, .int .i64 0] 48,
          rowP 9 1 g1 (i + 1) c1 (List.replicate i (.string zeroSec) ++ [.string zeroSec]), rowP 22 1 g2 (i + 1) c2 (List.replicate i (.slice none 0 0) ++ [.slice none 0 0]), rowP 4 1 g3 (i + 1) c3 (List.replicate i (.bool false) ++ [.bool false])])).symm
      refine List.Perm.cons _ ?_
      exact perm4b _ _ _ _ _
    · show ((n : Int) - ((i + 1 : Nat) : Int)).toNat < ((n : Int) - (i : Int)).toNat
      omega
  · have hi : i = n := by omega
    subst hi
    refine ⟨by simp [AD.new]; omega, rfl, by simp [AD.new], fun j e he => ?_, by simp [AD.new], fun j b hb => ?_, rfl, rfl⟩
    · rw [List.eq_of_mem_replicate (List.mem_of_getElem? he)]; rfl
    · rw [List.eq_of_mem_replicate (List.mem_of_getElem? hb)]; rfl
end Go.Proofs.Ytdppllkjibfjcaa
