import Derived.Test.YtdppllkjibfjcaaLd4
/-! drive's laws: DriveSafe. -/
namespace Go.Proofs.Ytdppllkjibfjcaa
open Go.Sh Go.Maps Go.RowKit
set_option linter.unusedVariables false
set_option maxHeartbeats 2000000
set_option maxRecDepth 20000
/-- the last one, ahead of j, that was written to s -/
def lastI (s : Nat) : Nat → Option Nat
  | 0 => none
  | j + 1 => if j % 4 = s then some j else lastI s j
def topAt (l : List ByteArray) (s j : Nat) : ByteArray := match lastI s j with
  | some i => fullB (l.getD i noB)
  | none => zeroSec
theorem lastI_none {s : Nat} (hs : s < 4) : ∀ {j : Nat}, lastI s j = none → j ≤ s
  | 0, _ => Nat.zero_le _
  | j + 1, h => by
    unfold lastI at h
    split at h
    · cases h
    · rename_i hj
      have := lastI_none hs h
      omega
theorem lastI_some {s : Nat} (hs : s < 4) : ∀ {j i : Nat}, lastI s j = some i → i < j ∧ i % 4 = s ∧ j ≤ i + 4
  | j + 1, i, h => by
    unfold lastI at h
    split at h
    · cases h; rename_i hj; exact ⟨by omega, hj, by omega⟩
    · rename_i hj
      obtain ⟨h1, h2, h3⟩ := lastI_some hs h
      exact ⟨by omega, h2, by omega⟩
structure Ph1 (l : List ByteArray) (a : AD) (j : Nat) : Prop where
  on : a.On 4
  sp : ∀ s, a.spoilt s = false
  top : ∀ s, s < 4 → a.top s = topAt l s j
  few : a.Few j
structure Ph2 (l : List ByteArray) (a : AD) (n j : Nat) : Prop where
  on : a.On 4
  sp : ∀ s, a.spoilt s = false
  safe : ∀ s, s < 4 → a.safe.getD s noB = topAt l s (n + 1)
  pend : ∀ s, s < 4 → ∀ x ∈ a.pend s, ∃ i, n < i ∧ i < j ∧ i % 4 = s ∧ x = fullB (l.getD i noB)
  few : a.Few j
theorem sec_put {a : AD} (h : a.On 4) (j : Nat) (s : ByteArray) : a.put (j % 4 : Nat) (fullB s) = 0 := h.put (by omega) (fullB_size s)
theorem write_sp {a : AD} {i : Int} {s : ByteArray} (h : ∀ s, a.spoilt s = false) : ∀ j, (a.write i s).spoilt j = false := by
  intro j
  unfold AD.write
  split
  · exact h j
  · simp only
    split
    · rfl
    · exact h j
theorem Ph1.start (l : List ByteArray) : Ph1 l (AD.new 4) 0 := by
  refine ⟨AD.On.new 4, fun _ => rfl, fun s hs => ?_, few_new 4 0⟩
  have : s = 0 ∨ s = 1 ∨ s = 2 ∨ s = 3 := by omega
  rcases this with rfl | rfl | rfl | rfl <;> rfl
theorem Ph1.write {l : List ByteArray} {a : AD} {j : Nat} (h : Ph1 l a j) : Ph1 l (a.write (j % 4 : Nat) (fullB (l.getD j noB))) (j + 1) := by
  refine ⟨h.on.write _ _, write_sp h.sp, fun s hs => ?_, h.few.write _ _⟩
  rw [AD.write_top (sec_put h.on j _)]
  unfold topAt lastI
  by_cases hj : j % 4 = s
  · rw [if_pos (by omega), if_pos hj]
  · rw [if_neg (by omega), if_neg hj]
    exact h.top s hs
theorem Ph1.flush {l : List ByteArray} {a : AD} {n : Nat} (h : Ph1 l a (n + 1)) : Ph2 l a.flush n (n + 1) := by
  have hs := fun s (hs : s < 4) => AD.flush_safe h.on.flush1 (j := s) (by rw [h.on.len]; exact hs)
  refine ⟨h.on.flush, fun s => ?_, fun s h4 => by rw [(hs s h4).1, h.top s h4], fun s h4 x hx => ?_, h.few.flush⟩
  · rw [AD.flush_of h.on.flush1]; exact h.sp s
  · rw [(hs s h4).2.1] at hx; cases hx
theorem Ph2.write {l : List ByteArray} {a : AD} {n j : Nat} (h : Ph2 l a n j) (hj : n < j) : Ph2 l (a.write (j % 4 : Nat) (fullB (l.getD j noB))) n (j + 1) := by
  have hp := sec_put h.on j (l.getD j noB)
  refine ⟨h.on.write _ _, write_sp h.sp, fun s hs => by rw [AD.write_of hp]; exact h.safe s hs, fun s hs x hx => ?_, h.few.write _ _⟩
  rw [AD.write_of hp] at hx
  simp only at hx
  split at hx
  · rename_i he
    rcases List.mem_append.1 hx with hx | hx
    · obtain ⟨i, h1, h2, h3, h4⟩ := h.pend s hs x hx
      exact ⟨i, h1, by omega, h3, h4⟩
    · exact ⟨j, hj, by omega, by omega, by simpa using hx⟩
  · obtain ⟨i, h1, h2, h3, h4⟩ := h.pend s hs x hx
    exact ⟨i, h1, by omega, h3, h4⟩
/-- what a sector may be behind the crash -/
def RightB (l : List ByteArray) (n s : Nat) (x : ByteArray) : Prop := (n < s ∧ x = zeroSec) ∨ ∃ i, i < l.length ∧ i % 4 = s ∧ n < i + 4 ∧ x = fullB (l.getD i noB)
theorem Ph2.crash {l : List ByteArray} {a : AD} {n : Nat} (h : Ph2 l a n l.length) (hn : n < l.length) (keep : List UInt8) : (a.crash keep).On 4 ∧ (∀ s, (a.crash keep).pend s = []) ∧
    ∀ s : Nat, s < 4 → ∃ x, (a.crash keep).read s = (x, 0) ∧ (a.crash keep).safeAt s = (x, 0) ∧ RightB l n s x := by
  have ho : (a.crash keep).On 4 := ⟨h.on.dead, rfl, by simp [AD.crash, AD.settle, keptFrom_len, h.on.len]⟩
  refine ⟨ho, fun _ => rfl, fun s hs => ⟨(a.crash keep).safe.getD s noB, ?_, ?_, ?_⟩⟩
  · rw [read_on ho (by omega), if_neg (by show ¬ a.spoilt _ = true; rw [h.sp]; simp), AD.top_none rfl]
    rfl
  · unfold AD.safeAt
    rw [ho.len, if_neg (by omega)]
    rfl
  · obtain ⟨k', hk⟩ := keptFrom_get (keepG keep) a.pend noB a.safe 0 0 s (by rw [h.on.len]; exact hs)
    have e : (a.crash keep).safe.getD s noB = (keptFrom (keepG keep) a.pend 0 0 a.safe).getD s noB := rfl
    rw [e, hk, Nat.zero_add]
    have base : RightB l n s (a.safe.getD s noB) := by
      rw [h.safe s hs]
      unfold topAt
      cases hl : lastI s (n + 1) with
      | none => exact .inl ⟨lastI_none hs hl, rfl⟩
      | some i =>
        obtain ⟨h1, h2, h3⟩ := lastI_some hs hl
        exact .inr ⟨i, by omega, h2, by omega, rfl⟩
    split
    · exact base
    · rename_i hp
      split
      · rename_i hg
        have hle := keepG_le keep k' (a.pend s).length
        have hlt : keepG keep k' (a.pend s).length - 1 < (a.pend s).length := by omega
        have hm : (a.pend s).getD (keepG keep k' (a.pend s).length - 1) noB ∈ a.pend s := by
          rw [List.getD_eq_getElem?_getD, List.getElem?_eq_getElem hlt]
          exact List.getElem_mem hlt
        obtain ⟨i, h1, h2, h3, h4⟩ := h.pend s hs _ hm
        exact .inr ⟨i, h2, h3, by omega, h4⟩
      · exact base
theorem safe_law (l : List ByteArray) (p : Option Addr) (c : Nat) (fl : Int) (ha : 0 ≤ fl ∧ fl ≤ 255) (keep : List UInt8) (pk : Option Addr) (ck : Nat) (w : World) (hl : strsAt w p l) (hk : bytesAt w pk keep) :
    Ret Try.prog 6 #[.slice p l.length c, .int .u8 fl, .slice pk keep.length ck] w (.bool true) := by
  refine ret_of (revetmentlaw04_DriveSafe_calls ?_)
  unfold revetmentlaw04_DriveSafe
  refine ⟨dec_t fun _ => shown_end (.refl w), dec_f fun hn => ⟨dec_t fun _ => shown_end (.refl w), dec_f fun hkl => ⟨beq_t fun _ => shown_end (.refl w), beq_f fun hz => ?_⟩⟩⟩
  refine shown_u (T.nil w) fun w1 h1 => ⟨_, rfl, no rfl (new_u (n := 4) h1 (by omega) fun d w2 h2 => ⟨_, rfl, no rfl ⟨hz, ?_⟩⟩)⟩
  have hn' : ∃ n : Nat, Int.tmod (IntKind.i64.wrap fl) (l.length : Int) = n ∧ n < l.length := by
    have h0 : (0 : Int) < (l.length : Int) := by omega
    have h5 : 0 ≤ fl % (l.length : Int) := Int.emod_nonneg _ hz
    have h6 : fl % (l.length : Int) < (l.length : Int) := Int.emod_lt_of_pos _ h0
    refine ⟨(Int.tmod (IntKind.i64.wrap fl) (l.length : Int)).toNat, ?_⟩
    rw [wrap64 _ (by omega) (by omega), Int.tmod_eq_emod_of_nonneg ha.1]; omega
  obtain ⟨n, hne, hnl⟩ := hn'
  rw [hne]
  refine ⟨fun vs w' => ∃ (j : Nat) (a : AD), vs = [.int .i64 j] ∧ j ≤ l.length ∧ (∀ s ∈ l.take j, s.size ≤ 100) ∧ (j ≤ n → Ph1 l a j) ∧ (n < j → Ph2 l a n j) ∧ Dr d a [] w w' [], fun vs _ => match vs with | [.int _ n] => (l.length - n).toNat | _ => 0, ⟨0, _, rfl, by omega, fun s hs => (by simp at hs), fun _ => Ph1.start l, fun h => absurd h (by omega), h2⟩, ?_⟩
  rintro vs w7 ⟨j, a, rfl, hjl, hsm, hA, hB, h7⟩
  refine ⟨_, rfl, dec_t fun hlt => ?_, dec_f fun hge => ?_⟩
  · have hlt : j < l.length := by omega
    obtain ⟨b, hp, hc⟩ := (hl.ext h7.ext).get (n := j) (by omega) (by omega)
    refine ⟨b, hp, by omega, by omega, _, hc, dec_t fun _ => shown_end h7.ext, dec_f fun hsz => ⟨b, hp, by omega, by omega, _, hc, ?_⟩⟩
    have hsm' := take_small hlt hsm hsz
    rw [show ((j : Nat) : Int).toNat = j by omega] at hsz ⊢
    have hfew : a.Few 1000000 := by
      by_cases hjn : j ≤ n
      · exact (hA hjn).few.mono (by omega)
      · exact (hB (by omega)).few.mono (by omega)
    have hon : a.On 4 := by
      by_cases hjn : j ≤ n
      · exact (hA hjn).on
      · exact (hB (by omega)).on
    have hm4 : Int.tmod (j : Int) 4 = ((j % 4 : Nat) : Int) := by rw [Int.tmod_eq_emod_of_nonneg (by omega)]; omega
    have wr : IntKind.i64.wrap ((j : Int) + 1) = ((j + 1 : Nat) : Int) := by rw [wrap64 _ (by omega) (by omega)]; omega
    rw [hm4, wr]
    refine full_u h7 (by omega) fun w8 h8 => ⟨_, rfl, write_u h8 hfew (sec_put hon j _) fun w9 h9 => ⟨_, rfl, no rfl ⟨beq_t fun hjn => ?_, beq_f fun hjn => ?_⟩⟩⟩
    · have hjn : j = n := by omega
      subst hjn
      have h1 := (hA (Nat.le_refl _)).write
      refine flush_u h9 (h1.few.mono (by omega)) h1.on.flush1 fun w10 h10 => ⟨_, rfl, no rfl ⟨⟨j + 1, _, rfl, by omega, hsm', fun h => absurd h (by omega), fun _ => h1.flush, h10⟩, ?_⟩⟩
      show ((l.length : Int) - ((j + 1 : Nat) : Int)).toNat < ((l.length : Int) - (j : Int)).toNat
      omega
    · refine ⟨⟨j + 1, _, rfl, by omega, hsm', fun h => (hA (by omega)).write, fun h => (hB (by omega)).write (by omega), h9⟩, ?_⟩
      show ((l.length : Int) - ((j + 1 : Nat) : Int)).toNat < ((l.length : Int) - (j : Int)).toNat
      omega
  · have hj : j = l.length := by omega
    subst hj
    have hB := hB hnl
    rw [List.take_length] at hsm
    have hfew : a.Few 1000000 := hB.few.mono (by omega)
    obtain ⟨c1, c2, c3⟩ := hB.crash hnl keep
    refine (crash_a h7 hfew keep pk ck (by omega) fun w10 hT => hk.ext hT.chg.ext).mono fun e w10 ⟨he, h10⟩ => ⟨he, ?_⟩
    have hfc : (a.crash keep).Few 1000000 := fun j => by rw [c2]; exact Nat.zero_le _
    refine ⟨fun vs w' => ∃ s : Nat, vs = [.int .i64 s] ∧ s ≤ 4 ∧ Dr d (a.crash keep) [] w w' [], fun vs _ => match vs with | [.int _ n] => (4 - n).toNat | _ => 0, ⟨0, rfl, by omega, h10⟩, ?_⟩
    rintro vs w11 ⟨s, rfl, hs4, h11⟩
    refine ⟨_, rfl, dec_t fun hlt => ?_, dec_f fun hge => ?_⟩
    · have hs : s < 4 := by omega
      obtain ⟨x, hr, hsf, hright⟩ := c3 s hs
      refine read_u h11 hfc hr fun w12 h12 => ⟨_, _, rfl, safe_u h12 hsf fun w13 h13 => ⟨_, _, rfl, Join.intro fun J hJ => ?_⟩⟩
      have wr : IntKind.i64.wrap ((s : Int) + 1) = ((s + 1 : Nat) : Int) := by rw [wrap64 _ (by omega) (by omega)]; omega
      have go : ∀ (b : Bool) (w14 : World), Dr d (a.crash keep) [] w w14 [] → (b = true ∨ ∃ i, i < l.length ∧ i % 4 = s ∧ n < i + 4 ∧ x = fullB (l.getD i noB)) → J [.bool b] w14 := by
        intro b w14 h14 hb
        refine hJ _ _ ⟨_, rfl, ?_⟩
        -- the last one that was flushed
        refine ⟨fun vs w' => ∃ (la : Int) (i : Nat), vs = [.int .i64 la, .int .i64 i] ∧ i % 4 = s ∧ (i : Int) ≤ n + 4 ∧ (la = -1 ∨ la = (i : Int) - 4) ∧ Dr d (a.crash keep) [] w w' [], fun vs _ => match vs with | [_, .int _ i] => (n + 5 - i).toNat | _ => 0, ⟨-1, s, rfl, by omega, by omega, .inl rfl, h14⟩, ?_⟩
        rintro vs w15 ⟨la, i, rfl, hi4, hin, hla, h15⟩
        refine ⟨_, _, rfl, dec_t fun hle => ?_, dec_f fun hgt => ?_⟩
        · have wr4 : IntKind.i64.wrap ((i : Int) + 4) = ((i + 4 : Nat) : Int) := by rw [wrap64 _ (by omega) (by omega)]; omega
          rw [wr4]
          refine ⟨⟨_, i + 4, rfl, by omega, by omega, .inr (by omega), h15⟩, ?_⟩
          show ((n : Int) + 5 - ((i + 4 : Nat) : Int)).toNat < ((n : Int) + 5 - (i : Int)).toNat
          omega
        · refine ⟨fun vs w' => ∃ (b1 : Bool) (i : Nat), vs = [.bool b1, .int .i64 i] ∧ i % 4 = s ∧ i ≤ l.length + 4 ∧ (b1 = true ∨ ∃ i0, i ≤ i0 ∧ i0 < l.length ∧ i0 % 4 = s ∧ la ≤ (i0 : Int) ∧ x = fullB (l.getD i0 noB)) ∧ Dr d (a.crash keep) [] w w' [], fun vs _ => match vs with | [_, .int _ i] => (l.length + 5 - i).toNat | _ => 0, ⟨b, s, rfl, by omega, by omega, ?_, h15⟩, ?_⟩
          · rcases hb with hb | ⟨i0, h1, h2, h3, h4⟩
            · exact .inl hb
            · exact .inr ⟨i0, by omega, h1, h2, by omega, h4⟩
          · rintro vs w16 ⟨b1, k, rfl, hk4, hkl2, hb1, h16⟩
            refine ⟨_, _, rfl, dec_t fun hkl3 => ?_, dec_f fun hkl3 => ?_⟩
            · have hkl3 : k < l.length := by omega
              have wr4 : IntKind.i64.wrap ((k : Int) + 4) = ((k + 4 : Nat) : Int) := by rw [wrap64 _ (by omega) (by omega)]; omega
              have meas : ((l.length : Int) + 5 - ((k + 4 : Nat) : Int)).toNat < ((l.length : Int) + 5 - (k : Int)).toNat := by omega
              rw [wr4]
              refine ⟨dec_t fun hge => ?_, dec_f fun hge => ⟨⟨b1, k + 4, rfl, by omega, by omega, ?_, h16⟩, meas⟩⟩
              · obtain ⟨b, hp, hc⟩ := (hl.ext h16.ext).get (n := k) (by omega) (by omega)
                rw [show ((k : Nat) : Int).toNat = k by omega] at hc ⊢
                refine ⟨b, hp, by omega, by omega, _, hc, full_u h16 ?_ fun w17 h17 => ⟨_, rfl, fun hx => ⟨⟨true, k + 4, rfl, by omega, by omega, .inl rfl, h17⟩, meas⟩, fun hx => ⟨⟨b1, k + 4, rfl, by omega, by omega, ?_, h17⟩, meas⟩⟩⟩
                · rw [List.getD_eq_getElem?_getD, List.getElem?_eq_getElem hkl3]
                  exact Nat.le_trans (hsm _ (List.getElem_mem hkl3)) (by decide)
                · rcases hb1 with hb1 | ⟨i0, g1, g2, g3, g4, g5⟩
                  · exact .inl hb1
                  · refine .inr ⟨i0, ?_, g2, g3, g4, g5⟩
                    have : k ≠ i0 := by
                      intro e; subst e
                      rw [← g5] at hx
                      rw [same_str] at hx; cases hx
                    omega
              · rcases hb1 with hb1 | ⟨i0, g1, g2, g3, g4, g5⟩
                · exact .inl hb1
                · exact .inr ⟨i0, by omega, g2, g3, g4, g5⟩
            · have hb1 : b1 = true := hb1.resolve_right fun ⟨i0, g1, g2, _⟩ => by omega
              subst hb1
              refine no rfl (no rfl (no (by simp) (no rfl ⟨⟨s + 1, by rw [wr], by omega, h16⟩, ?_⟩)))
              show ((4 : Int) - IntKind.i64.wrap ((s : Int) + 1)).toNat < ((4 : Int) - (s : Int)).toNat
              rw [wr]; omega
      refine ⟨dec_t fun hns => ?_, dec_f fun hns => go false _ h13 (hright.imp (fun h => absurd h.1 (by omega)) id)⟩
      refine (blank_spec w13).mono fun e w14 ⟨he, hx⟩ => ⟨_, he, fun hx2 => go true w14 (h13.quiet hx) (.inl rfl), fun hx2 => go false w14 (h13.quiet hx) (.inr ?_)⟩
      rcases hright with ⟨_, rfl⟩ | h
      · rw [same_str] at hx2; cases hx2
      · exact h
    · refine pending_u h11 hfc (n := 0) (pending_none c2) fun w12 h12 => ⟨_, rfl, rfl, h12.ext⟩
end Go.Proofs.Ytdppllkjibfjcaa
