import Derived.Test.YtdppllkjibfjcaaLd3
/-! drive's laws: DriveOff. -/
namespace Go.Proofs.Ytdppllkjibfjcaa
open Go.Sh Go.Maps Go.RowKit
set_option linter.unusedVariables false
set_option maxHeartbeats 2000000
set_option maxRecDepth 20000
structure OffAt (a : AD) (n : Nat) (l : List ByteArray) : Prop where
  dead : a.dead = false
  safe : a.safe = [firstB]
  sp : a.spoilt 0 = false
  power : a.power = some (n - l.length)
  pend : a.pend 0 = (l.take n).map fullB
  few : ∀ j, (a.pend j).length ≤ l.length
theorem OffAt.start (n : Nat) : OffAt (startA.setOff n) n [] := by
  refine ⟨start_on.dead, start_is.1, start_is.2.2, ?_, ?_, fun j => ?_⟩
  · simp [AD.setOff]
  · show startA.pend 0 = _
    rw [start_is.2.1]; simp
  · show (startA.pend j).length ≤ _
    rw [start_is.2.1]; exact Nat.le_refl _
theorem OffAt.may {a : AD} {n : Nat} {l : List ByteArray} (h : OffAt a n l) : a.may 0 = if l.length < n then 0 else 42 := by
  unfold AD.may AD.off
  rw [h.dead, h.power, h.safe]
  by_cases hn : l.length < n
  · rw [if_neg (by simp), if_neg (by simp; omega), if_neg (by simp), if_pos hn]
  · rw [if_neg (by simp), if_pos (by simp; omega), if_neg hn]
theorem OffAt.put {a : AD} {n : Nat} {l : List ByteArray} (h : OffAt a n l) (s : ByteArray) : a.put 0 (fullB s) = if l.length < n then 0 else 42 := by
  unfold AD.put
  rw [h.may, fullB_size]
  split <;> simp
theorem OffAt.write {a : AD} {n : Nat} {l : List ByteArray} (h : OffAt a n l) (s : ByteArray) : OffAt (a.write 0 (fullB s)) n (l ++ [s]) := by
  by_cases hn : l.length < n
  · have hp : a.put 0 (fullB s) = 0 := by rw [h.put, if_pos hn]
    rw [AD.write_of hp]
    refine ⟨h.dead, h.safe, by simp, ?_, ?_, fun j => ?_⟩
    · simp [h.power]; omega
    · simp only [Int.toNat_zero, if_true]
      rw [h.pend, List.take_of_length_le (by omega), List.take_of_length_le (by simp; omega)]
      simp
    · have := h.few j
      simp only [List.length_append, List.length_singleton]
      split
      · simp; omega
      · omega
  · have hp : a.put 0 (fullB s) ≠ 0 := by rw [h.put, if_neg hn]; decide
    have : a.write 0 (fullB s) = a := by unfold AD.write; rw [if_pos hp]
    rw [this]
    refine ⟨h.dead, h.safe, h.sp, by rw [h.power]; simp; omega, ?_, fun j => ?_⟩
    · rw [h.pend, List.take_append_of_le_length (by omega)]
    · have := h.few j
      simp; omega
theorem off_spec0 (l : List ByteArray) (p : Option Addr) (c : Nat) (after : Int) (ha : 0 ≤ after ∧ after ≤ 255) (keep : List UInt8) (pk : Option Addr) (ck : Nat) (w : World) (hl : strsAt w p l) (hk : bytesAt w pk keep) :
    Ret Try.prog 4 #[.slice p l.length c, .int .u8 after, .slice pk keep.length ck] w (.bool true) := by
  refine ret_of (revetmentlaw04_DriveOff_calls ?_)
  unfold revetmentlaw04_DriveOff
  refine ⟨dec_t fun _ => shown_end (.refl w), dec_f fun hn => ⟨dec_t fun _ => shown_end (.refl w), dec_f fun hkl => ?_⟩⟩
  refine shown_u (T.nil w) fun w1 h1 => ⟨_, rfl, no rfl (new_u (n := 1) h1 (by omega) fun d w2 h2 => ⟨_, rfl, no rfl ?_⟩)⟩
  refine full_u h2 (size_lit [102, 105, 114, 115, 116] (by decide)) fun w3 h3 => ⟨_, rfl, start_u h3 fun w4 h4 => ⟨_, rfl, no rfl ?_⟩⟩
  refine flush_u h4 ((few_new 1 0).write _ _ |>.mono (by decide)) ((AD.On.new 1).write 0 firstB).flush1 fun w5 h5 => ⟨_, rfl, no rfl ?_⟩
  have hst : Dr d startA [] w w5 [] := h5
  have hn' : ∃ n : Nat, Int.tmod (IntKind.i64.wrap after) 70 = n ∧ n < 70 := by
    refine ⟨(Int.tmod (IntKind.i64.wrap after) 70).toNat, ?_⟩
    rw [wrap64 _ (by omega) (by omega), Int.tmod_eq_emod_of_nonneg ha.1]; omega
  obtain ⟨n, hne, hn70⟩ := hn'
  rw [hne]
  refine (off_a hst n (by omega)).mono fun e w6 ⟨he, h6⟩ => ⟨he, _, _, min_run _ _ _ _ _ _, ?_⟩
  have hmin : (if (l.length : Int) < (n : Int) then (l.length : Int) else (n : Int)) = ((min n l.length : Nat) : Int) := by split <;> omega
  rw [hmin]
  refine ⟨fun vs w' => ∃ (j : Nat) (a : AD), vs = [.int .i64 j] ∧ j ≤ l.length ∧ (∀ s ∈ l.take j, s.size ≤ 100) ∧ OffAt a n (l.take j) ∧ Dr d a [] w w' [], fun vs _ => match vs with | [.int _ n] => (l.length - n).toNat | _ => 0, ⟨0, _, rfl, by omega, fun s hs => (by simp at hs), OffAt.start n, h6⟩, ?_⟩
  rintro vs w7 ⟨j, a, rfl, hjl, hsm, hA, h7⟩
  have hlj : (l.take j).length = j := by rw [List.length_take]; omega
  refine ⟨_, rfl, dec_t fun hlt => ?_, dec_f fun hge => ?_⟩
  · have hlt : j < l.length := by omega
    obtain ⟨b, hp, hc⟩ := (hl.ext h7.ext).get (n := j) (by omega) (by omega)
    refine ⟨b, hp, by omega, by omega, _, hc, dec_t fun _ => shown_end h7.ext, dec_f fun hsz => ⟨b, hp, by omega, by omega, _, hc, ?_⟩⟩
    have e : l.getD (j : Int).toNat noB = l[j] := by
      rw [show ((j : Nat) : Int).toNat = j by omega, List.getD_eq_getElem?_getD, List.getElem?_eq_getElem hlt]; rfl
    have hsm' := take_small hlt hsm hsz
    rw [e] at hsz ⊢
    have hput := hA.put l[j]
    rw [hlj] at hput
    have hnext := hA.write l[j]
    have htk : l.take j ++ [l[j]] = l.take (j + 1) := by rw [List.take_add_one, List.getElem?_eq_getElem hlt]; rfl
    rw [htk] at hnext
    have hfew : a.Few 1000000 := fun i => by have := hA.few i; omega
    have wr : IntKind.i64.wrap ((j : Int) + 1) = ((j + 1 : Nat) : Int) := by rw [wrap64 _ (by omega) (by omega)]; omega
    refine full_u h7 (by omega) fun w8 h8 => ⟨_, rfl, write_u h8 hfew hput fun w9 h9 => ⟨_, rfl, ?_⟩⟩
    have goal : (∃ (j1 : Nat) (a : AD), [Value.int .i64 ((j + 1 : Nat) : Int)] = [.int .i64 j1] ∧ j1 ≤ l.length ∧ (∀ s ∈ l.take j1, s.size ≤ 100) ∧ OffAt a n (l.take j1) ∧ Dr d a [] w w9 []) ∧ ((l.length : Int) - ((j + 1 : Nat) : Int)).toNat < ((l.length : Int) - (j : Int)).toNat :=
      ⟨⟨j + 1, _, rfl, by omega, hsm', hnext, h9⟩, by omega⟩
    rw [wr]
    by_cases hjn : j < n
    · rw [if_pos hjn]
      exact no (by simp; omega) (no rfl goal)
    · rw [if_neg hjn]
      exact no (by simp; omega) (yes rfl (no rfl goal))
  · have hj : j = l.length := by omega
    subst hj
    rw [List.take_length] at hA hsm
    have hfew : a.Few 1000000 := fun i => by have := hA.few i; omega
    have hread : a.read 0 = if l.length < n then (a.top 0, 0) else (noB, 42) := by
      unfold AD.read
      rw [hA.may]
      split
      · rw [if_neg (by simp), if_neg (by simp [hA.sp])]; rfl
      · rw [if_pos (by decide)]
    have hpl : (a.pend 0).length = min n l.length := by rw [hA.pend, List.length_map, List.length_take]
    have hpend : a.pending = min n l.length := by
      unfold AD.pending
      rw [hA.safe]
      simp [hpl]
    have hrd : ∃ s e, a.read 0 = (s, e) ∧ (!((e == 42) == (decide ((n : Int) ≤ (l.length : Int))))) = false := by
      rw [hread]
      by_cases hln : l.length < n
      · rw [if_pos hln]
        exact ⟨_, _, rfl, by simp; omega⟩
      · rw [if_neg hln]
        exact ⟨_, _, rfl, by simp; omega⟩
    obtain ⟨s1, e1, hr1, hcond⟩ := hrd
    refine read_u h7 hfew hr1 fun w8 h8 => ⟨_, _, rfl, no hcond (pending_u h8 hfew hpend fun w9 h9 => ⟨_, rfl, no (by simp) ?_⟩)⟩
    obtain ⟨c1, c2, c3⟩ := crash_read hA.dead hA.safe hA.sp keep
    refine (crash_a h9 hfew keep pk ck (by omega) fun w10 hT => hk.ext hT.chg.ext).mono fun e w10 ⟨he, h10⟩ => ⟨he, read_u h10 (fun j => by rw [c3]; exact Nat.zero_le _) c2 fun w11 h11 => ⟨_, _, rfl, Join.intro fun J hJ => ?_⟩⟩
    have hkeepk : ∀ m : Nat, m ≤ 60 → 0 < keep.length → Int.tmod (IntKind.i64.wrap ((keep.getD 0 0).toNat : Int)) (IntKind.i64.wrap ((m : Int) + 1)) = (keepG keep 0 m : Int) := by
      intro m hm h0
      have h8 : (keep.getD 0 0).toNat < 256 := (keep.getD 0 0).toNat_lt
      rw [wrap64 _ (by omega) (by omega), wrap64 _ (by omega) (by omega), Int.tmod_eq_emod_of_nonneg (by omega)]
      have : keepG keep 0 m = (keep.getD 0 0).toNat % (m + 1) := by
        unfold keepG
        rw [if_neg (by omega), Nat.zero_mod]
      rw [this]
      push_cast
      rfl
    have hkle := keepG_le keep 0 (min n l.length)
    have last : ∀ (want : ByteArray) (w12 : World), Dr d (a.crash keep) [] w w12 [] → (if a.pend 0 = [] then firstB else if 0 < keepG keep 0 (a.pend 0).length then (a.pend 0).getD (keepG keep 0 (a.pend 0).length - 1) noB else firstB) = want →
        ((((0 : Int) == 0) = true → (((if a.pend 0 = [] then firstB else if 0 < keepG keep 0 (a.pend 0).length then (a.pend 0).getD (keepG keep 0 (a.pend 0).length - 1) noB else firstB).toList == want.toList) = true →
          Calls Try.prog 15 #[.string (ByteArray.mk #[])] w12 fun e_17 w22 => ∃ s143 : ByteArray, e_17 = .returned (.string s143) ∧
          Calls Try.prog 14 #[.pointer (some ⟨d, 0, none⟩), .int .i64 0, .string s143] w22 fun e_18 w23 => ∃ n144 : Int, e_18 = .returned (.int .i64 n144) ∧ RetR w (.bool true) (.bool (n144 == 0)) w23) ∧
          (((if a.pend 0 = [] then firstB else if 0 < keepG keep 0 (a.pend 0).length then (a.pend 0).getD (keepG keep 0 (a.pend 0).length - 1) noB else firstB).toList == want.toList) = false → RetR w (.bool true) (.bool false) w12)) ∧
        (((0 : Int) == 0) = false → RetR w (.bool true) (.bool false) w12)) := by
      intro want w12 h12 hw
      rw [hw]
      refine yes rfl (yes (same_str _) (full_u h12 (size_lit [] (by decide)) fun w13 h13 => ⟨_, rfl, write_u h13 (fun j => by rw [c3]; exact Nat.zero_le _) (c1.put (by omega) (fullB_size _)) fun w14 h14 => ⟨_, rfl, rfl, h14.ext⟩⟩))
    have tail : ∀ (k : Nat) (w12 : World), Dr d (a.crash keep) [] w w12 [] → k = keepG keep 0 (min n l.length) → J [.int .i64 k] w12 := by
      intro k w12 h12 hk0
      refine hJ _ _ ⟨_, rfl, full_u h12 (size_lit [102, 105, 114, 115, 116] (by decide)) fun w13 h13 => ⟨_, rfl, Join.intro fun J1 hJ1 => ?_⟩⟩
      refine ⟨dec_t fun hk1 => ?_, dec_f fun hk1 => hJ1 _ _ ⟨_, rfl, last _ _ h13 ?_⟩⟩
      · have hidx : (IntKind.i64.wrap ((k : Int) - 1)) = ((k - 1 : Nat) : Int) := by rw [wrap64 _ (by omega) (by omega)]; omega
        have hlt : k - 1 < l.length := by omega
        obtain ⟨b, hp, hc⟩ := (hl.ext h13.ext).get (n := IntKind.i64.wrap ((k : Int) - 1)) (by omega) (by omega)
        refine ⟨b, hp, by omega, by omega, _, hc, ?_⟩
        have e : l.getD (IntKind.i64.wrap ((k : Int) - 1)).toNat noB = l[k - 1] := by
          rw [hidx, show ((k - 1 : Nat) : Int).toNat = k - 1 by omega, List.getD_eq_getElem?_getD, List.getElem?_eq_getElem hlt]; rfl
        rw [e]
        refine full_u h13 (Nat.le_trans (hsm _ (List.getElem_mem hlt)) (by decide)) fun w14 h14 => ⟨_, rfl, hJ1 _ _ ⟨_, rfl, last _ _ h14 ?_⟩⟩
        rw [hpl, ← hk0, hA.pend]
        have hne : (l.take n).map fullB ≠ [] := by
          intro h0
          have : ((l.take n).map fullB).length = 0 := by rw [h0]; rfl
          rw [List.length_map, List.length_take] at this
          omega
        rw [if_neg hne, if_pos (by omega), List.getD_eq_getElem?_getD, List.getElem?_map, List.getElem?_take_of_lt (by omega), List.getElem?_eq_getElem hlt]
        rfl
      · rw [hpl, ← hk0, if_neg (show ¬ 0 < k by omega)]
        split <;> rfl
    have hkz := hk.ext h11.ext
    refine ⟨dec_t fun h0 => ?_, dec_f fun h0 => tail 0 w11 h11 (by unfold keepG; rw [if_pos (by omega)])⟩
    obtain ⟨b, hb⟩ := hkz.1 (by intro e; rw [e] at h0; simp at h0)
    have hlt : 0 < keep.length := by omega
    refine ⟨b, hb, by omega, by omega, ((keep.getD 0 0).toNat : Int), ?_, ?_, ?_⟩
    · have := hkz.2 b hb 0 (keep.getD 0 0) (by rw [List.getD_eq_getElem?_getD, List.getElem?_eq_getElem hlt]; rfl)
      exact this
    · have : IntKind.i64.wrap (((min n l.length : Nat) : Int) + 1) = ((min n l.length : Nat) : Int) + 1 := wrap64 _ (by omega) (by omega)
      rw [this]; omega
    · rw [hkeepk (min n l.length) (by omega) hlt]
      exact tail _ w11 h11 rfl
end Go.Proofs.Ytdppllkjibfjcaa
