import Derived.Test.YtedbbdeeofdepaaGreatN2
import Derived.Test.YtedbbdeeofdepaaGreatN6
section
/-! the reference's drive: Flush, Crash, Off, New. -/
namespace Go.Proofs.YtedbbdeeofdepaaGreat
open Go.Sh Go.Maps Go.RowKit
set_option linter.unusedVariables false
set_option maxHeartbeats 1000000
set_option maxRecDepth 20000
def cnt (pend : Nat → List ByteArray) : Nat → Nat → Nat
  | _, 0 => 0
  | i, n + 1 => (if pend i = [] then 0 else 1) + cnt pend (i + 1) n
theorem keptFrom_snoc (g : Nat → Nat → Nat) (pend : Nat → List ByteArray) (s : ByteArray) : ∀ (l : List ByteArray) (i k : Nat),
    keptFrom g pend i k (l ++ [s]) = keptFrom g pend i k l ++ [if pend (i + l.length) = [] then s else if 0 < g (k + cnt pend i l.length) (pend (i + l.length)).length then (pend (i + l.length)).getD (g (k + cnt pend i l.length) (pend (i + l.length)).length - 1) noB else s]
  | [], i, k => by
    simp only [List.nil_append, keptFrom, List.length_nil, Nat.add_zero, cnt]
    split <;> rfl
  | x :: l, i, k => by
    have h1 := keptFrom_snoc g pend s l (i + 1) k
    have h2 := keptFrom_snoc g pend s l (i + 1) (k + 1)
    rw [show i + 1 + l.length = i + (x :: l).length by simp; omega] at h1 h2
    simp only [List.cons_append, keptFrom]
    have hc : cnt pend i (x :: l).length = (if pend i = [] then 0 else 1) + cnt pend (i + 1) l.length := rfl
    by_cases hp : pend i = []
    · rw [if_pos hp, if_pos hp, h1, hc, if_pos hp, Nat.zero_add]; rfl
    · rw [if_neg hp, if_neg hp, h2, hc, if_neg hp, show k + 1 + cnt pend (i + 1) l.length = k + (1 + cnt pend (i + 1) l.length) by omega]; rfl
/-- the first i sectors are settled -/
def AD.part (a : AD) (g : Nat → Nat → Nat) (i : Nat) : AD := { a with safe := keptFrom g a.pend 0 0 (a.safe.take i) ++ a.safe.drop i, pend := fun j => if j < i then [] else a.pend j }
theorem part_zero (a : AD) (g : Nat → Nat → Nat) : a.part g 0 = a := by
  unfold AD.part
  simp [keptFrom]
theorem part_len (a : AD) (g : Nat → Nat → Nat) (i : Nat) : (a.part g i).safe.length = a.safe.length := by
  simp [AD.part, keptFrom_len]; omega
theorem part_step (a : AD) (g : Nat → Nat → Nat) {i : Nat} (hi : i < a.safe.length) : a.part g (i + 1) = keepA (a.part g i) i (if a.pend i = [] then 0 else g (cnt a.pend 0 i) (a.pend i).length) := by
  have hpi : (a.part g i).pend i = a.pend i := by simp [AD.part]
  have hpend : (fun j => if j < i + 1 then [] else a.pend j) = fun j => if j = i then ([] : List ByteArray) else if j < i then [] else a.pend j := by
    funext j
    by_cases h1 : j = i
    · subst h1; simp
    · by_cases h2 : j < i
      · rw [if_pos (by omega), if_neg h1, if_pos h2]
      · rw [if_neg (by omega), if_neg h1, if_neg h2]
  have htake : a.safe.take (i + 1) = a.safe.take i ++ [a.safe[i]] := by rw [List.take_add_one, List.getElem?_eq_getElem hi]; rfl
  have hdrop : a.safe.drop i = a.safe[i] :: a.safe.drop (i + 1) := by rw [List.drop_eq_getElem_cons hi]
  have hlt : (a.safe.take i).length = i := by rw [List.length_take]; omega
  have hkl : (keptFrom g a.pend 0 0 (a.safe.take i)).length = i := by rw [keptFrom_len, hlt]
  have hsafe : keptFrom g a.pend 0 0 (a.safe.take (i + 1)) ++ a.safe.drop (i + 1) = if 0 < (if a.pend i = [] then 0 else g (cnt a.pend 0 i) (a.pend i).length) then (keptFrom g a.pend 0 0 (a.safe.take i) ++ a.safe.drop i).set i ((a.pend i).getD ((if a.pend i = [] then 0 else g (cnt a.pend 0 i) (a.pend i).length) - 1) noB) else keptFrom g a.pend 0 0 (a.safe.take i) ++ a.safe.drop i := by
    rw [htake, keptFrom_snoc, hlt, Nat.zero_add, Nat.zero_add, hdrop, List.append_assoc]
    by_cases hp : a.pend i = []
    · simp only [hp, if_true, Nat.lt_irrefl, if_false]; rfl
    · simp only [hp, if_false]
      split
      · rw [List.set_append_right _ _ (by omega), hkl, Nat.sub_self, List.set_cons_zero]; rfl
      · rfl
  unfold keepA
  rw [hpi]
  show AD.mk _ _ _ _ _ = AD.mk _ _ _ _ _
  rw [hpend, hsafe]
  rfl
theorem part_end {R : RL} {a : AD} {g : Nat → Nat → Nat} (h : RAbs R (a.part g a.safe.length)) : RAbs R (a.settle g) := by
  have hs : (a.part g a.safe.length).safe = keptFrom g a.pend 0 0 a.safe := by simp [AD.part]
  have hl : (a.settle g).safe.length = a.safe.length := by show (keptFrom g a.pend 0 0 a.safe).length = _; rw [keptFrom_len]
  have hw := h.wl
  have hpl := h.pl
  rw [part_len] at hw hpl
  refine ⟨by rw [hl, ← part_len a g a.safe.length]; exact h.n1, by rw [h.safe, hs]; rfl, by rw [hl]; exact hw, fun j e he => ?_, by rw [hl]; exact hpl, h.sp, h.dead, h.power⟩
  have hj := (List.getElem?_eq_some_iff.1 he).1
  rw [h.ws j e he]
  show (if j < a.safe.length then [] else a.pend j) = []
  rw [if_pos (by omega)]
theorem part_few {a : AD} {N : Nat} (h : a.Few N) (g : Nat → Nat → Nat) (i : Nat) : (a.part g i).Few N := by
  intro j
  show (if j < i then [] else a.pend j).length ≤ N
  split
  · exact Nat.zero_le _
  · exact h j
theorem rflush_r {p : Nat} {a : AD} {F : List Nat} {w0 w : World} {X : List A} (h : Rf p a F w0 w X) (hF : a.Few 1000000) :
    Calls Tryz.prog 100 #[.pointer (some ⟨p, 0, none⟩)] w fun e w' => e = .returned (.int .i64 a.flush1) ∧ Rf p a.flush F w0 w' X := by
  have h0 := h
  obtain ⟨R, rfl, hA, hT⟩ := h
  refine (revetmentref04_Drive_Flush_calls (R := fun v w' => v = .int .i64 a.flush1 ∧ Rf R.p a.flush F w0 w' X) ?_).mono fun e w' ⟨v, he, hv, ht⟩ => ⟨hv ▸ he, ht⟩
  unfold revetmentref04_Drive_Flush
  have hd := hA.dead
  have fail : ∀ n, a.flush1 = n → n ≠ 0 → ∀ w1, Ext w w1 → Value.int .i64 n = .int .i64 a.flush1 ∧ Rf R.p a.flush F w0 w1 X := fun n hn h1 w1 hx => by
    refine ⟨by rw [hn], ?_⟩
    unfold AD.flush
    rw [if_pos (by rw [hn]; exact h1)]
    exact h0.quiet hx
  refine ⟨_, rfl, _, hT.ldA (by repeat (first | exact List.Mem.head _ | refine List.Mem.tail _ ?_)) rfl, fun hc => fail 40 (by unfold AD.flush1; rw [if_pos (by rw [← hd]; exact hc)]) (by decide) _ (.refl w), fun hc => ?_⟩
  have hnd : ¬ a.dead = true := by rw [← hd, hc]; simp
  refine (roff_r h0).mono fun e w1 ⟨he, hx⟩ => ⟨_, he, fun ho => fail 42 (by unfold AD.flush1; rw [if_neg hnd, if_pos ho]) (by decide) _ hx, fun ho => ?_⟩
  have hz : a.flush1 = 0 := by unfold AD.flush1; rw [if_neg hnd, if_neg (by rw [ho]; simp)]
  refine (ruse_r (hT.quiet hx)).mono fun e w2 ⟨he, hT2⟩ => ⟨he, ?_⟩
  have hA1 : RAbs { R with left := if R.cut then IntKind.i64.wrap (R.left - 1) else R.left } { a with power := a.power.map (· - 1) } := ⟨hA.n1, hA.safe, hA.wl, hA.ws, hA.pl, hA.sp, hA.dead, hA.left ho⟩
  have h2 : Rf R.p { a with power := a.power.map (· - 1) } F w0 w2 X := ⟨{ R with left := if R.cut then IntKind.i64.wrap (R.left - 1) else R.left }, rfl, hA1, hT2⟩
  rw [hz, AD.flush_of hz]
  have hF1 : ({ a with power := a.power.map (· - 1) } : AD).Few 1000000 := hF
  generalize ({ a with power := a.power.map (· - 1) } : AD) = b at h2 hF1
  clear hA1 hT2 hA hT
  refine ⟨fun vs w' => ∃ i : Nat, vs = [.int .i64 i] ∧ i ≤ b.safe.length ∧ b.safe.length ≤ 4096 ∧ Rf R.p (b.part (fun _ m => m) i) F w0 w' X, fun vs _ => match vs with | [.int _ i] => (5000 - i).toNat | _ => 0, ⟨0, rfl, by omega, (by obtain ⟨_, _, hA, _⟩ := h2; exact hA.n1), by rw [part_zero]; exact h2⟩, ?_⟩
  rintro vs w3 ⟨i, rfl, hib, hn1, hR⟩
  have hR0 := hR
  obtain ⟨R3, hp3, hA3, hT3⟩ := hR
  have hwl := hA3.wl
  rw [part_len] at hwl
  refine ⟨_, rfl, ⟨R3.p, 0, none⟩, by rw [hp3], _, _, _, hT3.ldA (by repeat (first | exact List.Mem.head _ | refine List.Mem.tail _ ?_)) rfl, dec_t fun hlt => ?_, dec_f fun hge => ⟨rfl, R3, hp3, ?_, hT3⟩⟩
  · have hi : i < b.safe.length := by omega
    have hw : i < R3.ws.length := by omega
    obtain ⟨q, hq, hc⟩ := T.row1 (i := i) (v := (R3.ws[i]).val) hT3 (show rowP 22 1 R3.gw R3.ws.length R3.cw (R3.ws.map RW.val) ∈ _ from (by repeat (first | exact List.Mem.head _ | refine List.Mem.tail _ ?_))) (by rw [List.getElem?_map, List.getElem?_eq_getElem hw]; rfl)
    have hws := hA3.ws i _ (List.getElem?_eq_getElem hw)
    have hpi : (b.part (fun _ m => m) i).pend i = b.pend i := by simp [AD.part]
    rw [hpi] at hws
    refine ⟨⟨R3.p, 0, none⟩, by rw [hp3], _, _, _, hT3.ldA (by repeat (first | exact List.Mem.head _ | refine List.Mem.tail _ ?_)) (by rw [hq]; rfl), _, rfl, by omega, by omega, _, _, _, hc, ?_⟩
    have hk := rkeep_r hR0 (part_few hF1 _ i) (i := i) (n := (b.pend i).length) (by rw [part_len]; exact hi) (by rw [hpi]; exact Nat.le_refl _)
    rw [hws]
    refine hk.mono fun e w4 ⟨he, h4⟩ => ⟨he, ⟨i + 1, by rw [wrap64 _ (by omega) (by omega)]; rfl, by omega, hn1, ?_⟩, ?_⟩
    · rw [part_step b _ hi]
      have : (if b.pend i = [] then 0 else (fun _ m => m) (cnt b.pend 0 i) (b.pend i).length) = (b.pend i).length := by
        split
        · rename_i h; rw [h]; rfl
        · rfl
      rw [this]
      exact h4
    · show ((5000 : Int) - IntKind.i64.wrap ((i : Int) + 1)).toNat < ((5000 : Int) - (i : Int)).toNat
      rw [wrap64 _ (by omega) (by omega)]; omega
  · have hi : i = b.safe.length := by omega
    rw [hi] at hA3
    exact part_end hA3
theorem roff_set {p : Nat} {a : AD} {F : List Nat} {w0 w : World} {X : List A} (h : Rf p a F w0 w X) (n : Int) (hn : n ≤ 9223372036854775807) :
    Calls Tryz.prog 59 #[.pointer (some ⟨p, 0, none⟩), .int .i64 n] w fun e w' => e = .returned (.tuple #[]) ∧ Rf p (a.setOff n) F w0 w' X := by
  obtain ⟨R, rfl, hA, hT⟩ := h
  refine (revetmentref04_Drive_Off_calls (R := fun v w' => v = .tuple #[] ∧ Rf R.p (a.setOff n) F w0 w' X) ?_).mono fun e w' ⟨v, he, hv, ht⟩ => ⟨hv ▸ he, ht⟩
  unfold revetmentref04_Drive_Off
  refine ⟨_, rfl, ?_⟩
  refine St.tA hT .head (by simp) (by rfl) rfl fun w1 hT1 => ⟨_, _, max_run _ _ _ _ _ _, _, rfl, ?_⟩
  refine St.tA hT1 .head (by simp) (by rfl) rfl fun w2 hT2 => ⟨rfl, { R with cut := true, left := if 0 > n then 0 else n }, rfl, ⟨hA.n1, hA.safe, hA.wl, hA.ws, hA.pl, hA.sp, hA.dead, ?_⟩, hT2⟩
  simp only [AD.setOff]
  refine ⟨trivial, ?_, by omega⟩
  split <;> omega
/-- r.Gone = true -/
theorem rgone {p : Nat} {a : AD} {F : List Nat} {w0 w : World} {X : List A} {K : World → Prop} (h : Rf p a F w0 w X) (hK : ∀ w', Rf p a.die F w0 w' X → K w') : St (Addr.add ⟨p, 0, none⟩ 3) (.bool true) w K := by
  obtain ⟨R, rfl, hA, hT⟩ := h
  exact St.tA hT .head (by simp) (by rfl) rfl fun w1 hT1 => hK w1 ⟨{ R with gone := true }, rfl, ⟨hA.n1, hA.safe, hA.wl, hA.ws, hA.pl, hA.sp, rfl, hA.power⟩, hT1⟩
theorem push_t {P : Program} {F : List Nat} {w0 w : World} {Γ Δ : List A} {t e : TypeId} {i : TypeInfo} {z v : Value} (ht : P.underlying t = some (.slice e)) (hi : P.info? e = some i) (hz : i.zero = some z) (hsize : i.size = 1) (hzs : z.cells.size = 1) (hby : decide (i.bytes ≤ 1000000) = true)
    {g : Option Nat} {n cap : Nat} {xs : List Value} (hT : T F w0 w Γ) (hk : Pick (rowP e 1 g n cap xs) Γ Δ) (hv : v.oneCell' = true) (hn : n ≤ 1000000) {K : Option Addr → Nat → Nat → World → Prop} (hK : ∀ g' cap' w', T F w0 w' (rowP e 1 g' (n + 1) cap' (xs ++ [v]) :: Δ) → K (ptr g') (n + 1) cap' w') :
    Alloc #[v] e w fun k w1 => ∃ (p : Option Addr) (l c : Nat), ∃ w2, (builtin .append #[t, t] t #[false, false] #[.slice (ptr g) n cap, .slice (some ⟨k, 0, none⟩) 1 1]).run P w1 = .ok (.value (.slice p l c)) w2 ∧ K p l c w2 := by
  refine Alloc.t hT fun k w1 hT1 => ?_
  have hby' : i.bytes ≤ 1000000 := of_decide_eq_true hby
  have hmul : (n + 1) * i.bytes ≤ 1000001 * 1000000 := Nat.mul_le_mul (by omega) hby'
  obtain ⟨g', cap', w', hr, hT'⟩ := append_t (ty := t) #[false, false] ht hi hz hsize hzs hT1 (.tail hk) (a := ⟨k, 0, none⟩) (m := 1) (c := 1) (news := [v]) rfl (fun j u hu => by
      rw [addr_add, Nat.zero_add]
      exact hT1.ld (by repeat (first | exact List.Mem.head _ | refine List.Mem.tail _ ?_)) (by simpa using hu)) (fun u hu => by obtain rfl := List.mem_singleton.1 hu; exact hv) (by simp only [maxLen]; omega) (by omega)
  exact ⟨_, _, _, w', hr, hK g' cap' w' (T.drop (hT'.swap (.swap _ _ _)))⟩
theorem perm4b {α : Type} (d c b a : α) (l : List α) : (d :: c :: b :: a :: l).Perm (a :: b :: c :: d :: l) := by
  have h1 := List.reverse_perm [a, b, c, d]
  exact h1.append_right l
theorem rnew_r (n : Nat) {F : List Nat} {w0 w : World} {X : List A} (hT : T F w0 w X) (hn : 1 ≤ n ∧ n ≤ 4096) :
    Calls Tryz.prog 33 #[.int .i64 n] w fun e w' => ∃ p, e = .returned (.pointer (some ⟨p, 0, none⟩)) ∧ Rf p (AD.new n) F w0 w' X := by
  refine (revetmentref04_New_calls (R := fun v w' => ∃ p, v = .pointer (some ⟨p, 0, none⟩) ∧ Rf p (AD.new n) F w0 w' X) ?_).mono fun e w' ⟨v, he, p, hv, ht⟩ => ⟨p, hv ▸ he, ht⟩
  unfold revetmentref04_New
  refine ⟨dec_t fun h => absurd h (by omega), dec_f fun _ => ⟨dec_t fun h => absurd h (by omega), dec_f fun _ => ?_⟩⟩
  refine Alloc.t hT fun k w1 hT1 => (blank_spec w1).mono fun e w2 ⟨he, hx⟩ => ⟨_, he, ?_⟩
  have nils : ∀ m : Nat, (List.replicate m (⟨none, 0, []⟩ : RW)).map RW.row = List.replicate m (RW.row ⟨none, 0, []⟩) := fun m => by simp
  have hT2 : T F w0 w2 (refL ⟨k, none, 0, none, 0, none, 0, [], [], [], false, false, 0⟩ ++ X) := ((((hT1.quiet hx).swap (.refl _)).nilRow 4 1).nilRow 22 1).nilRow 9 1 |>.swap (by
    exact (List.perm_middle (l₁ := [rowP 9 1 none 0 0 [], rowP 22 1 none 0 0 [], rowP 4 1 none 0 0 []])))
  refine ⟨fun vs w' => ∃ (i : Nat) (gs gw gp : Option Nat) (cs cw cp : Nat), vs = [.int .i64 i] ∧ i ≤ n ∧ T F w0 w' (refL ⟨k, gs, cs, gw, cw, gp, cp, List.replicate i zeroSec, List.replicate i ⟨none, 0, []⟩, List.replicate i false, false, false, 0⟩ ++ X), fun vs _ => match vs with | [.int _ i] => (n - i).toNat | _ => 0, ⟨0, none, none, none, 0, 0, 0, rfl, by omega, hT2⟩, ?_⟩
  rintro vs w3 ⟨i, gs, gw, gp, cs, cw, cp, rfl, hin, hT3⟩
  refine ⟨_, rfl, dec_t fun hlt => ?_, dec_f fun hge => ⟨k, rfl, _, rfl, ?_, hT3⟩⟩
  · have wr : IntKind.i64.wrap ((i : Int) + 1) = ((i + 1 : Nat) : Int) := by rw [wrap64 _ (by omega) (by omega)]; omega
    rw [wr]
    have hk : refL ⟨k, gs, cs, gw, cw, gp, cp, List.replicate i zeroSec, List.replicate i ⟨none, 0, []⟩, List.replicate i false, false, false, 0⟩ = [blk k #[.slice (ptr gs) i cs, .slice (ptr gw) i cw, .slice (ptr gp) i cp, .bool false, .bool false, .int .i64 0] 104,
        rowP 9 1 gs i cs (List.replicate i (.string zeroSec)), rowP 22 1 gw i cw (List.replicate i (.slice none 0 0)), rowP 4 1 gp i cp (List.replicate i (.bool false))] ++ List.replicate i (RW.row ⟨none, 0, []⟩) := by
      simp only [refL, hdr, List.length_replicate, List.map_replicate]; rfl
    rw [hk] at hT3
    refine ⟨_, rfl, _, _, _, hT3.ld (by repeat (first | exact List.Mem.head _ | refine List.Mem.tail _ ?_)) rfl, push_t (i := Tryz.t9) (z := .string (ByteArray.mk #[])) (by kernel_rfl) (by kernel_rfl) (by kernel_rfl) (by kernel_rfl) (by kernel_rfl) (by kernel_rfl) hT3 (.tail .head) rfl (by omega) fun g1 c1 w4 hT4 => ⟨_, rfl, ?_⟩⟩
    refine St.t hT4 (.tail .head) (by simp) (by rfl) rfl fun w5 hT5 => ⟨_, rfl, _, _, _, hT5.ldA (by repeat (first | exact List.Mem.head _ | refine List.Mem.tail _ ?_)) rfl, ?_⟩
    refine push_t (i := Tryz.t22) (z := .slice none 0 0) (by kernel_rfl) (by kernel_rfl) (by kernel_rfl) (by kernel_rfl) (by kernel_rfl) (by kernel_rfl) hT5 (.tail (.tail .head)) rfl (by omega) fun g2 c2 w6 hT6 => ⟨_, rfl, ?_⟩
    refine St.tA hT6 (.tail (.tail .head)) (by simp) (by rfl) rfl fun w7 hT7 => ⟨_, rfl, _, _, _, hT7.ldA (by repeat (first | exact List.Mem.head _ | refine List.Mem.tail _ ?_)) rfl, ?_⟩
    refine push_t (i := Tryz.t4) (z := .bool false) (by kernel_rfl) (by kernel_rfl) (by kernel_rfl) (by kernel_rfl) (by kernel_rfl) (by kernel_rfl) hT7 (.tail (.tail (.tail .head))) rfl (by omega) fun g3 c3 w8 hT8 => ⟨_, rfl, ?_⟩
    refine St.tA hT8 (.tail (.tail (.tail .head))) (by simp) (by rfl) rfl fun w9 hT9 => ⟨⟨i + 1, g1, g2, g3, c1, c2, c3, rfl, by omega, ?_⟩, ?_⟩
    · have hk2 : refL ⟨k, g1, c1, g2, c2, g3, c3, List.replicate (i + 1) zeroSec, List.replicate (i + 1) ⟨none, 0, []⟩, List.replicate (i + 1) false, false, false, 0⟩ = [blk k #[.slice (ptr g1) (i + 1) c1, .slice (ptr g2) (i + 1) c2, .slice (ptr g3) (i + 1) c3, .bool false, .bool false, .int .i64 0] 104,
          rowP 9 1 g1 (i + 1) c1 (List.replicate i (.string zeroSec) ++ [.string zeroSec]), rowP 22 1 g2 (i + 1) c2 (List.replicate i (.slice none 0 0) ++ [.slice none 0 0]), rowP 4 1 g3 (i + 1) c3 (List.replicate i (.bool false) ++ [.bool false])] ++ (RW.row ⟨none, 0, []⟩ :: List.replicate i (RW.row ⟨none, 0, []⟩)) := by
        simp only [refL, hdr, List.length_replicate, List.map_replicate, ← List.replicate_succ', ← List.replicate_succ]; rfl
      rw [hk2]
      refine (nil_row hT9).swap ?_
      refine List.Perm.trans ?_ (List.perm_middle (l₁ := [blk k #[.slice (ptr g1) (i + 1) c1, .slice (ptr g2) (i + 1) c2, .slice (ptr g3) (i + 1) c3, .bool false, .bool false, .int .i64 0] 104,
          rowP 9 1 g1 (i + 1) c1 (List.replicate i (.string zeroSec) ++ [.string zeroSec]), rowP 22 1 g2 (i + 1) c2 (List.replicate i (.slice none 0 0) ++ [.slice none 0 0]), rowP 4 1 g3 (i + 1) c3 (List.replicate i (.bool false) ++ [.bool false])])).symm
      refine List.Perm.cons _ ?_
      exact perm4b _ _ _ _ _
    · show ((n : Int) - ((i + 1 : Nat) : Int)).toNat < ((n : Int) - (i : Int)).toNat
      omega
  · have hi : i = n := by omega
    subst hi
    refine ⟨by simp [AD.new]; omega, rfl, by simp [AD.new], fun j e he => ?_, by simp [AD.new], fun j b hb => ?_, rfl, rfl⟩
    · rw [List.eq_of_mem_replicate (List.mem_of_getElem? he)]; rfl
    · rw [List.eq_of_mem_replicate (List.mem_of_getElem? hb)]; rfl
end Go.Proofs.YtedbbdeeofdepaaGreat
end
section
/-! A drive that holds texts, all of them safe; what is done beside a drive. -/
namespace Go.Proofs.YtedbbdeeofdepaaGreat
open Go.Sh Go.RowKit
set_option linter.unusedVariables false
set_option linter.unusedSimpArgs false
set_option maxRecDepth 20000
set_option maxHeartbeats 1000000
theorem read_on {a : AD} {n : Nat} (h : a.On n) {i : Int} (hi : 0 ≤ i ∧ i < (n : Int)) : a.read i = if a.spoilt i.toNat then (noB, 41) else (a.top i.toNat, 0) := AD.read_of (h.may hi)
/-- nothing is pending, nothing is spoilt -/
structure AD.Hold (a : AD) (n : Nat) (f : Nat → ByteArray) : Prop where
  on : a.On n
  pend : ∀ j, a.pend j = []
  sp : ∀ j, a.spoilt j = false
  safe : ∀ j, j < n → a.safe.getD j noB = f j
theorem AD.Hold.few {a : AD} {n : Nat} {f : Nat → ByteArray} (h : a.Hold n f) (N : Nat) : a.Few N := fun j => by rw [h.pend]; exact Nat.zero_le _
theorem AD.Hold.read {a : AD} {n : Nat} {f : Nat → ByteArray} (h : a.Hold n f) {i : Nat} (hi : i < n) : a.read (i : Int) = (f i, 0) := by
  rw [read_on h.on (by omega), Int.toNat_natCast, if_neg (by rw [h.sp]; decide), AD.top_none (h.pend i), h.safe i hi]
theorem hold_new (n : Nat) : (AD.new n).Hold n fun _ => zeroSec := ⟨AD.On.new n, fun _ => rfl, fun _ => rfl, fun j hj => by
  show (List.replicate n zeroSec).getD j noB = zeroSec
  simp [List.getD, hj]⟩
theorem AD.Hold.change {a : AD} {n : Nat} {f : Nat → ByteArray} (h : a.Hold n f) {i : Nat} (hi : i < n) {s : ByteArray} (hs : s.size = 64) : (a.change (i : Int) s).Hold n fun j => if j = i then s else f j := by
  have hp := h.on.put (i := (i : Int)) (by omega) hs
  refine ⟨h.on.change _ _, fun j => ?_, fun j => ?_, fun j hj => ?_⟩ <;> rw [AD.change_of hp]
  · show (if j = (i : Int).toNat then [] else a.pend j) = []
    rw [h.pend]; split <;> rfl
  · exact h.sp j
  · show (a.safe.set (i : Int).toNat s).getD j noB = _
    have hl := h.on.len
    rw [Int.toNat_natCast, List.getD_eq_getElem?_getD, List.getElem?_set]
    by_cases e : i = j
    · subst e; rw [if_pos rfl, if_pos (by omega), if_pos rfl]; rfl
    · rw [if_neg e, if_neg (fun e' => e e'.symm), ← h.safe j hj, List.getD_eq_getElem?_getD]
theorem Dr.alloc {p : Nat} {a : AD} {F : List Nat} {w0 w : World} {X : List A} (h : Dr p a F w0 w X) {c : Array Value} {t : TypeId} {K : Nat → World → Prop} (hK : ∀ b w', Dr p a F w0 w' (blk b c t :: X) → K b w') : Alloc c t w K := by
  obtain ⟨D, h1, h2, hT⟩ := h
  refine Alloc.t hT fun b w' hT' => hK b w' ⟨D, h1, h2, ?_⟩
  first
    | exact hT'
    | exact hT'.swap List.perm_middle.symm
section
variable {p : Nat} {a : AD} {F : List Nat} {w0 w : World} {X : List A}
theorem Dr.perm {X' : List A} (h : Dr p a F w0 w X) (hp : X.Perm X') : Dr p a F w0 w X' := by
  obtain ⟨D, h1, h2, hT⟩ := h
  exact ⟨D, h1, h2, hT.swap (hp.append_right _)⟩
theorem Dr.dropX {y : A} (h : Dr p a F w0 w (y :: X)) : Dr p a F w0 w X := by
  obtain ⟨D, h1, h2, hT⟩ := h
  exact ⟨D, h1, h2, T.drop hT⟩
theorem Dr.only {y : A} : ∀ {X : List A}, Dr p a F w0 w (y :: X) → Dr p a F w0 w [y]
  | [], h => h
  | _ :: X, h => Dr.only (X := X) (h.perm (.swap _ _ _)).dropX
theorem Dr.into {y : A} {K : Prop} (h : Dr p a F w0 w (y :: X)) (hK : ∀ Γ, T F w0 w (y :: Γ) → (∀ w' y', T F w0 w' (y' :: Γ) → Dr p a F w0 w' (y' :: X)) → K) : K := by
  obtain ⟨D, h1, h2, hT⟩ := h
  exact hK (X ++ drvL D) hT fun w' y' hT' => ⟨D, h1, h2, hT'⟩
theorem Rf.under (h : Rf p a F w0 w X) : T F w0 w X := by
  obtain ⟨R, h1, h2, hT⟩ := h
  exact T.dropAll hT
theorem Rf.alloc (h : Rf p a F w0 w X) {c : Array Value} {t : TypeId} {K : Nat → World → Prop} (hK : ∀ b w', Rf p a F w0 w' (blk b c t :: X) → K b w') : Alloc c t w K := by
  obtain ⟨R, h1, h2, hT⟩ := h
  exact Alloc.t hT fun b w' hT' => hK b w' ⟨R, h1, h2, hT'.swap List.perm_middle.symm⟩
theorem Rf.perm {X' : List A} (h : Rf p a F w0 w X) (hp : X.Perm X') : Rf p a F w0 w X' := by
  obtain ⟨R, h1, h2, hT⟩ := h
  exact ⟨R, h1, h2, hT.swap (hp.append_left _)⟩
theorem Rf.dropX {y : A} (h : Rf p a F w0 w (y :: X)) : Rf p a F w0 w X := by
  obtain ⟨R, h1, h2, hT⟩ := h
  exact ⟨R, h1, h2, T.drop (hT.swap List.perm_middle)⟩
theorem Rf.drew (h : Rf p a F w0 w X) : Rf p a F w0 w.drew X := by
  obtain ⟨R, h1, h2, hT⟩ := h
  exact ⟨R, h1, h2, hT.drew⟩
theorem Rf.dead (h : Rf p a F w0 w X) : w.cell? (Addr.add ⟨p, 0, none⟩ 3) = some (.bool a.dead) := by
  obtain ⟨R, rfl, hA, hT⟩ := h
  rw [← hA.dead]
  exact hT.ldA (by repeat (first | exact List.Mem.head _ | refine List.Mem.tail _ ?_)) rfl
end
end Go.Proofs.YtedbbdeeofdepaaGreat
end
section
/-! Many drives, and many of the reference's. -/
namespace Go.Proofs.YtedbbdeeofdepaaGreat
open Go.Sh Go.RowKit
set_option linter.unusedVariables false
set_option linter.unusedSimpArgs false
set_option maxRecDepth 20000
set_option maxHeartbeats 1000000
def drK (p : Nat) (a : AD) : Kd := fun Y => ∃ D, D.p = p ∧ Abs D a ∧ Y = drvL D
def rfK (p : Nat) (a : AD) : Kd := fun Y => ∃ R, R.p = p ∧ RAbs R a ∧ Y = refL R
section
variable {p q : Nat} {a : AD} {F : List Nat} {w0 w : World} {X : List A}
theorem Dr.ow (h : Dr p a F w0 w X) : Ow (drK p a) F w0 w X := by
  obtain ⟨D, h1, h2, hT⟩ := h
  exact ⟨_, ⟨D, h1, h2, rfl⟩, hT⟩
theorem Ow.dr (h : Ow (drK p a) F w0 w X) : Dr p a F w0 w X := by
  obtain ⟨Y, ⟨D, h1, h2, rfl⟩, hT⟩ := h
  exact ⟨D, h1, h2, hT⟩
theorem Rf.ow (h : Rf p a F w0 w X) : Ow (rfK p a) F w0 w X := by
  obtain ⟨D, h1, h2, hT⟩ := h
  exact ⟨_, ⟨D, h1, h2, rfl⟩, hT.swap List.perm_append_comm⟩
theorem Ow.rf (h : Ow (rfK p a) F w0 w X) : Rf p a F w0 w X := by
  obtain ⟨Y, ⟨D, h1, h2, rfl⟩, hT⟩ := h
  exact ⟨D, h1, h2, hT.swap List.perm_append_comm⟩
end
/-- a drive, or none -/
abbrev Od := Option (Nat × AD)
def odK : Od → Kd
  | none => noK
  | some x => drK x.1 x.2
def orK : Od → Kd
  | none => noK
  | some x => rfK x.1 x.2
abbrev dsK (l : List Od) : Kd := allK odK l
abbrev rsK (l : List Od) : Kd := allK orK l
def odV (x : Od) : Value := .pointer (x.map fun y => ⟨y.1, 0, none⟩)
section
variable {l : List Od} {k p : Nat} {a : AD} {F : List Nat} {w0 w : World} {X : List A}
/-- one drive of many -/
theorem Ow.drive (H : Ow (dsK l) F w0 w X) (hk : l[k]? = some (some (p, a))) : ∃ Z, Dr p a F w0 w (X ++ Z) ∧ ∀ {a' : AD} {F' : List Nat} {w0' w' : World} {X' : List A}, Dr p a' F' w0' w' (X' ++ Z) → Ow (dsK (l.set k (some (p, a')))) F' w0' w' X' := by
  obtain ⟨Z, h1, h2⟩ := Ow.at hk H
  exact ⟨Z, Ow.dr h1, fun {a' F' w0' w' X'} h' => h2 (x' := some (p, a')) (Dr.ow h')⟩
theorem Ow.rdrive (H : Ow (rsK l) F w0 w X) (hk : l[k]? = some (some (p, a))) : ∃ Z, Rf p a F w0 w (X ++ Z) ∧ ∀ {a' : AD} {F' : List Nat} {w0' w' : World} {X' : List A}, Rf p a' F' w0' w' (X' ++ Z) → Ow (rsK (l.set k (some (p, a')))) F' w0' w' X' := by
  obtain ⟨Z, h1, h2⟩ := Ow.at hk H
  exact ⟨Z, Ow.rf h1, fun {a' F' w0' w' X'} h' => h2 (x' := some (p, a')) (Rf.ow h')⟩
theorem set_get_same {α : Type} {l : List α} {k : Nat} {x : α} (h : l[k]? = some x) : l.set k x = l := by
  obtain ⟨hk, he⟩ := List.getElem?_eq_some_iff.1 h
  rw [← he, List.set_getElem_self]
/-- a call on one drive of many -/
theorem Ow.onDrive {P : Program} {f : FuncId} {args : Array Value} {v : Value} {b : AD} (H : Ow (dsK l) F w0 w X) (hk : l[k]? = some (some (p, a)))
    (hc : ∀ Z, Dr p a F w0 w (X ++ Z) → Calls P f args w fun e w' => e = .returned v ∧ Dr p b F w0 w' (X ++ Z)) : Calls P f args w fun e w' => e = .returned v ∧ Ow (dsK (l.set k (some (p, b)))) F w0 w' X := by
  obtain ⟨Z, h1, h2⟩ := Ow.drive H hk
  exact (hc Z h1).mono fun e w' ⟨he, h'⟩ => ⟨he, h2 h'⟩
theorem Ow.onRef {P : Program} {f : FuncId} {args : Array Value} {v : Value} {b : AD} (H : Ow (rsK l) F w0 w X) (hk : l[k]? = some (some (p, a)))
    (hc : ∀ Z, Rf p a F w0 w (X ++ Z) → Calls P f args w fun e w' => e = .returned v ∧ Rf p b F w0 w' (X ++ Z)) : Calls P f args w fun e w' => e = .returned v ∧ Ow (rsK (l.set k (some (p, b)))) F w0 w' X := by
  obtain ⟨Z, h1, h2⟩ := Ow.rdrive H hk
  exact (hc Z h1).mono fun e w' ⟨he, h'⟩ => ⟨he, h2 h'⟩
end
theorem getD_mem_or {α : Type} (l : List α) (j : Nat) (d : α) : l.getD j d ∈ l ∨ l.getD j d = d := by
  by_cases h : j < l.length
  · exact .inl (by simp [List.getD, h])
  · exact .inr (by simp [List.getD, List.getElem?_eq_none (Nat.le_of_not_lt h)])
/-- what a drive holds is no longer than a sector -/
theorem Dr.top_size {p : Nat} {a : AD} {F : List Nat} {w0 w : World} {X : List A} (h : Dr p a F w0 w X) (i : Nat) : (a.top i).size ≤ 64 := by
  obtain ⟨D, _, hA, _⟩ := h
  have hs : ∀ s ∈ a.safe, s.size = 64 := by rw [← hA.safe]; exact hA.ok.s64
  have hp : ∀ s ∈ a.pend i, s.size = 64 := by
    rw [← hA.pend i]
    unfold pendW
    cases hf : D.ws.find? fun e => e.k == (i : Int) with
    | none => intro s hs; cases hs
    | some e => exact hA.ok.w64 e (List.mem_of_find?_eq_some hf)
  unfold AD.top
  split
  · rename_i s he
    have := hp s (List.mem_of_getLast? he)
    omega
  · rcases getD_mem_or a.safe i noB with h | h
    · have := hs _ h; omega
    · rw [h]; show 0 ≤ 64; omega
theorem Dr.read_size {p : Nat} {a : AD} {F : List Nat} {w0 w : World} {X : List A} (h : Dr p a F w0 w X) (i : Int) : (a.read i).1.size ≤ 64 := by
  unfold AD.read
  split
  · show 0 ≤ 64; omega
  · split
    · show 0 ≤ 64; omega
    · exact h.top_size _
/-- pointers to blocks, or to none -/
def pv (x : Option Nat) : Value := .pointer (ptr x)
def ptrsV (ps : List (Option Nat)) : List Value := ps.map pv
theorem ptrsV_get {ps : List (Option Nat)} {k : Nat} {x : Option Nat} (h : ps[k]? = some x) : (ptrsV ps)[k]? = some (pv x) := by simp [ptrsV, h]
theorem ptrsV_len (ps : List (Option Nat)) : (ptrsV ps).length = ps.length := List.length_map ..
def odB (x : Od) : Option Nat := x.map fun y => y.1
/-- the blocks of drives -/
def blks (l : List Od) : List (Option Nat) := l.map odB
theorem blks_len (l : List Od) : (blks l).length = l.length := List.length_map ..
theorem blks_get {l : List Od} {k : Nat} {x : Od} (h : l[k]? = some x) : (blks l)[k]? = some (odB x) := by simp [blks, h]
theorem blks_set {l : List Od} {k p : Nat} {a b : AD} (h : l[k]? = some (some (p, a))) : blks (l.set k (some (p, b))) = blks l := by
  unfold blks
  rw [List.map_set]
  exact set_get_same (by simp [h, odB])
/-- few writes are pending on each -/
def FewL (l : List Od) (N : Nat) : Prop := ∀ q a, some (q, a) ∈ l → a.Few N
theorem FewL.mono {l : List Od} {N M : Nat} (h : FewL l N) (hm : N ≤ M) : FewL l M := fun q a hq => (h q a hq).mono hm
section
variable {P : Program} {f : FuncId} {args : Array Value} {v : Value} {g : Kd} {F : List Nat} {w0 w : World} {X : List A} {l l' : List Od} {k p : Nat} {a b : AD}
/-- a call on the first kind of two -/
theorem Ow.onFst {h h' : Kd} (H : Ow (star h g) F w0 w X) (hc : ∀ Z, Ow h F w0 w (X ++ Z) → Calls P f args w fun e w' => e = .returned v ∧ Ow h' F w0 w' (X ++ Z)) : Calls P f args w fun e w' => e = .returned v ∧ Ow (star h' g) F w0 w' X := by
  obtain ⟨Z, hZ, h1, h2⟩ := Ow.lend H
  exact (hc Z h1).mono fun e w' ⟨he, h3⟩ => ⟨he, h2 h3⟩
theorem Ow.onSnd {h h' : Kd} (H : Ow (star g h) F w0 w X) (hc : ∀ Z, Ow h F w0 w (X ++ Z) → Calls P f args w fun e w' => e = .returned v ∧ Ow h' F w0 w' (X ++ Z)) : Calls P f args w fun e w' => e = .returned v ∧ Ow (star g h') F w0 w' X :=
  (Ow.onFst H.flip hc).mono fun e w' ⟨he, h3⟩ => ⟨he, h3.flip⟩
end
/-- how drives stand, whichever they are -/
def adO (x : Od) : Option AD := x.map fun y => y.2
def ads (l : List Od) : List (Option AD) := l.map adO
theorem ads_get {l m : List Od} (h : ads l = ads m) {k p : Nat} {a : AD} (hk : l[k]? = some (some (p, a))) : ∃ q, m[k]? = some (some (q, a)) := by
  have h1 : (ads l)[k]? = some (some a) := by simp [ads, hk, adO]
  rw [h] at h1
  unfold ads at h1
  rw [List.getElem?_map] at h1
  cases hx : m[k]? with
  | none => rw [hx] at h1; cases h1
  | some x =>
    rw [hx] at h1
    cases x with
    | none => cases h1
    | some y =>
      have : y.2 = a := by simpa [adO] using h1
      exact ⟨y.1, by rw [← this]⟩
theorem ads_set {l m : List Od} (h : ads l = ads m) {k p q : Nat} {a : AD} : ads (l.set k (some (p, a))) = ads (m.set k (some (q, a))) := by
  unfold ads at *
  rw [List.map_set, List.map_set, h]; rfl
theorem ads_len {l m : List Od} (h : ads l = ads m) : l.length = m.length := by
  have := congrArg List.length h
  simpa [ads] using this
theorem FewL.ads {l m : List Od} {N : Nat} (h : ads l = ads m) (hF : FewL l N) : FewL m N := fun q a hm => by
  obtain ⟨k, hk, he⟩ := List.getElem_of_mem hm
  obtain ⟨p, hp⟩ := ads_get h.symm (k := k) (p := q) (a := a) (by rw [List.getElem?_eq_getElem hk, he])
  exact hF p a (List.mem_of_getElem? hp)
theorem FewL.set {l : List Od} {N : Nat} (h : FewL l N) {k p : Nat} {a : AD} (ha : a.Few N) : FewL (l.set k (some (p, a))) N := fun q b hm => by
  rcases List.mem_or_eq_of_mem_set hm with hm | hm
  · exact h q b hm
  · simp at hm
    rw [hm.2]; exact ha
section
variable {h g : Kd} {F : List Nat} {w0 w : World} {X : List A} {l : List Od} {q : Nat} {a : AD}
theorem Ow.newD {n : Nat} (H : Ow h F w0 w X) (hn : 1 ≤ n ∧ n ≤ 4096) {Φ : Ending → World → Prop} (hk : ∀ q w', Ow (star (drK q (AD.new n)) h) F w0 w' X → Φ (.returned (.pointer (some ⟨q, 0, none⟩))) w') : Calls Tryz.prog 32 #[.int .i64 n] w Φ := by
  obtain ⟨Y, hY, hT⟩ := H
  refine new_u hT hn fun q w' h' => hk q w' ?_
  exact Ow.join hY (Dr.ow h')
theorem Ow.newR {n : Nat} (H : Ow h F w0 w X) (hn : 1 ≤ n ∧ n ≤ 4096) {Φ : Ending → World → Prop} (hk : ∀ q w', Ow (star (rfK q (AD.new n)) h) F w0 w' X → Φ (.returned (.pointer (some ⟨q, 0, none⟩))) w') : Calls Tryz.prog 33 #[.int .i64 n] w Φ := by
  obtain ⟨Y, hY, hT⟩ := H
  refine (rnew_r n hT hn).mono fun e w' ⟨q, he, h'⟩ => he ▸ hk q w' ?_
  exact Ow.join hY (Rf.ow h')
theorem Ow.assoc {k : Kd} (H : Ow (star k (star h g)) F w0 w X) : Ow (star (star k h) g) F w0 w X := by
  obtain ⟨Y, ⟨Y1, Y2, h1, ⟨Y3, Y4, h2, h3, rfl⟩, rfl⟩, hT⟩ := H
  exact ⟨_, ⟨Y1 ++ Y3, Y4, ⟨Y1, Y3, h1, h2, rfl⟩, h3, rfl⟩, by rw [List.append_assoc Y1 Y3 Y4]; exact hT⟩
theorem Ow.inFst {h' : Kd} (H : Ow (star h g) F w0 w X) (hi : ∀ {X : List A}, Ow h F w0 w X → Ow h' F w0 w X) : Ow (star h' g) F w0 w X := by
  obtain ⟨Z, hZ, h1, h2⟩ := Ow.lend H
  exact h2 (hi h1)
theorem Ow.addD (H : Ow (star (drK q a) (star (dsK l) g)) F w0 w X) : Ow (star (dsK (l ++ [some (q, a)])) g) F w0 w X :=
  Ow.inFst (Ow.assoc H) fun h => Ow.snoc (f := odK) (x := some (q, a)) h
theorem Ow.addR (H : Ow (star (rfK q a) (star g (rsK l))) F w0 w X) : Ow (star g (rsK (l ++ [some (q, a)]))) F w0 w X := by
  obtain ⟨Y, ⟨Y1, Y2, h1, ⟨Y3, Y4, h2, h3, rfl⟩, rfl⟩, hT⟩ := H
  have h4 : Ow (star (rfK q a) (rsK l)) F w0 w (X ++ Y3) := ⟨Y1 ++ Y4, ⟨Y1, Y4, h1, h3, rfl⟩, hT.swap (by
    rw [List.append_assoc]
    refine List.Perm.append_left _ ?_
    rw [← List.append_assoc, ← List.append_assoc]
    exact List.perm_append_comm.append_right _)⟩
  exact (Ow.join h2 (Ow.snoc (f := orK) (x := some (q, a)) h4)).flip
end
theorem blks_snoc (l : List Od) (x : Od) : ptrsV (blks (l ++ [x])) = ptrsV (blks l) ++ [odV x] := by
  cases x <;> simp [ptrsV, blks, odB, pv, odV]
theorem ads_snoc (l : List Od) (x : Od) : ads (l ++ [x]) = ads l ++ [adO x] := by simp [ads]
end Go.Proofs.YtedbbdeeofdepaaGreat
end
