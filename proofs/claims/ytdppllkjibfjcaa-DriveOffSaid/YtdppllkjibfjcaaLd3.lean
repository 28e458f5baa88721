import Derived.Test.YtdppllkjibfjcaaLd2
/-! drive's laws: DriveKeeps, DriveOff. -/
namespace Go.Proofs.Ytdppllkjibfjcaa
open Go.Sh Go.Maps Go.RowKit
set_option linter.unusedVariables false
set_option maxHeartbeats 2000000
set_option maxRecDepth 20000
/-- one sector, written so many texts -/
def written (a : AD) (l : List ByteArray) : AD := l.foldl (fun a s => a.write 0 (fullB s)) a
theorem written_snoc (a : AD) (l : List ByteArray) (s : ByteArray) : written a (l ++ [s]) = (written a l).write 0 (fullB s) := by simp [written]
theorem written_on {a : AD} (h : a.On 1) (l : List ByteArray) : (written a l).On 1 ∧ (written a l).safe = a.safe ∧ (written a l).pend 0 = a.pend 0 ++ l.map fullB ∧ (∀ j, j ≠ 0 → (written a l).pend j = a.pend j) ∧ (a.spoilt 0 = false → (written a l).spoilt 0 = false) := by
  induction l generalizing a with
  | nil => exact ⟨h, rfl, by simp [written], fun _ _ => rfl, id⟩
  | cons s l ih =>
    have hp := h.put (i := 0) (by omega) (fullB_size s)
    obtain ⟨h1, h2, h3, h4, h5⟩ := ih (a := a.write 0 (fullB s)) (h.write _ _)
    refine ⟨h1, ?_, ?_, fun j hj => ?_, fun hs => ?_⟩
    · show (written (a.write 0 (fullB s)) l).safe = _
      rw [h2, AD.write_of hp]
    · show (written (a.write 0 (fullB s)) l).pend 0 = _
      rw [h3, AD.write_of hp]; simp
    · show (written (a.write 0 (fullB s)) l).pend j = _
      rw [h4 j hj, AD.write_of hp]; simp [hj]
    · exact h5 (by rw [AD.write_of hp]; simp)
theorem take_small {l : List ByteArray} {n : Nat} (hlt : n < l.length) (h : ∀ s ∈ l.take n, s.size ≤ 100) (hs : ¬ (((l.getD (n : Int).toNat noB).size : Int) > 100)) : ∀ s ∈ l.take (n + 1), s.size ≤ 100 := by
  intro s hm
  rw [List.take_add_one, List.getElem?_eq_getElem hlt] at hm
  rcases List.mem_append.1 hm with hm | hm
  · exact h s hm
  · obtain rfl : s = l[n] := by simpa using hm
    rw [show ((n : Nat) : Int).toNat = n by omega, List.getD_eq_getElem?_getD, List.getElem?_eq_getElem hlt] at hs
    simp only [Option.getD_some] at hs
    omega
/-- what was first -/
def firstB : ByteArray := fullB (ByteArray.mk #[102, 105, 114, 115, 116])
def startA : AD := ((AD.new 1).write 0 firstB).flush
theorem start_put : (AD.new 1).put 0 firstB = 0 := (AD.On.new 1).put (by omega) (fullB_size _)
theorem start_on : startA.On 1 := ((AD.On.new 1).write _ _).flush
theorem start_is : startA.safe = [firstB] ∧ (∀ j, startA.pend j = []) ∧ startA.spoilt 0 = false := by
  have ho := (AD.On.new 1).write 0 firstB
  have h1 := AD.flush_safe ho.flush1 (j := 0) (by rw [ho.len]; omega)
  have hl := start_on.len
  refine ⟨?_, fun j => ?_, ?_⟩
  · have h2 : startA.safe.getD 0 noB = firstB := by
      unfold startA
      rw [h1.1, AD.write_top start_put]; rfl
    match hs : startA.safe, hl, h2 with
    | [x], _, h2 => rw [← h2]; rfl
  · unfold startA
    rw [AD.flush_of ho.flush1]; rfl
  · unfold startA
    rw [h1.2.2, AD.write_of start_put]; rfl
theorem start_few : startA.Few 0 := fun j => by rw [start_is.2.1 j]; exact Nat.le_refl _
theorem written_few {a : AD} {N : Nat} (h : a.Few N) (l : List ByteArray) : (written a l).Few (N + l.length) := by
  induction l generalizing a N with
  | nil => exact h
  | cons s l ih =>
    have := ih (a := a.write 0 (fullB s)) (h.write 0 (fullB s))
    refine this.mono ?_
    simp only [List.length_cons]; omega
/-- the drive that both statements start with -/
theorem start_u {w w1 : World} {Φ : Ending → World → Prop} {p : Nat} (h1 : Dr p (AD.new 1) [] w w1 []) (hΦ : ∀ w2, Dr p ((AD.new 1).write 0 firstB) [] w w2 [] → Φ (.returned (.int .i64 0)) w2) :
    Calls Try.prog 14 #[.pointer (some ⟨p, 0, none⟩), .int .i64 0, .string firstB] w1 Φ := write_u h1 (few_new _ _) start_put hΦ
theorem crash_read {a : AD} {F : ByteArray} (h : a.dead = false) (hsafe : a.safe = [F]) (hsp : a.spoilt 0 = false) (keep : List UInt8) :
    (a.crash keep).On 1 ∧ (a.crash keep).read 0 = (if a.pend 0 = [] then F else if 0 < keepG keep 0 (a.pend 0).length then (a.pend 0).getD (keepG keep 0 (a.pend 0).length - 1) noB else F, 0) ∧ ∀ j, (a.crash keep).pend j = [] := by
  have ho : (a.crash keep).On 1 := ⟨h, rfl, by simp [AD.crash, AD.settle, keptFrom_len, hsafe]⟩
  refine ⟨ho, ?_, fun j => rfl⟩
  rw [read_on ho (by omega), if_neg (by simp [AD.crash, AD.settle, hsp]), AD.top_none rfl]
  have : (a.crash keep).safe = keptFrom (keepG keep) a.pend 0 0 [F] := by simp [AD.crash, AD.settle, hsafe]
  rw [this, keptFrom_one]
  rfl
theorem keeps_spec (l : List ByteArray) (p : Option Addr) (c : Nat) (all : Bool) (w : World) (hl : strsAt w p l) : Ret Try.prog 3 #[.slice p l.length c, .bool all] w (.bool true) := by
  refine ret_of (revetmentlaw04_DriveKeeps_calls ?_)
  unfold revetmentlaw04_DriveKeeps
  refine ⟨dec_t fun _ => shown_end (.refl w), dec_f fun hn => ?_⟩
  refine shown_u (T.nil w) fun w1 h1 => ⟨_, rfl, no rfl (new_u (n := 1) h1 (by omega) fun d w2 h2 => ⟨_, rfl, no rfl ?_⟩)⟩
  refine full_u h2 (size_lit [102, 105, 114, 115, 116] (by decide)) fun w3 h3 => ⟨_, rfl, start_u h3 fun w4 h4 => ⟨_, rfl, no rfl ?_⟩⟩
  refine flush_u h4 ((few_new 1 0).write _ _ |>.mono (by decide)) ((AD.On.new 1).write 0 firstB).flush1 fun w5 h5 => ⟨_, rfl, no rfl ?_⟩
  have hst : Dr d startA [] w w5 [] := h5
  refine ⟨fun vs w' => ∃ n : Nat, vs = [.int .i64 n] ∧ n ≤ l.length ∧ (∀ s ∈ l.take n, s.size ≤ 100) ∧ Dr d (written startA (l.take n)) [] w w' [], fun vs _ => match vs with | [.int _ n] => (l.length - n).toNat | _ => 0, ⟨0, rfl, by omega, fun s hs => (by simp at hs), hst⟩, ?_⟩
  rintro vs w6 ⟨n, rfl, hnl, hsm, h6⟩
  refine ⟨_, rfl, dec_t fun hlt => ?_, dec_f fun hge => ?_⟩
  · have hlt : n < l.length := by omega
    obtain ⟨a, hp, hc⟩ := (hl.ext h6.ext).get (n := n) (by omega) (by omega)
    refine ⟨a, hp, by omega, by omega, _, hc, dec_t fun _ => shown_end h6.ext, dec_f fun hsz => ⟨a, hp, by omega, by omega, _, hc, ?_⟩⟩
    have hq := (written_on start_on (l.take n)).1
    have hfew := written_few start_few (l.take n)
    rw [List.length_take] at hfew
    refine full_u h6 (by omega) fun w7 h7 => ⟨_, rfl, write_u h7 (hfew.mono (by omega)) (hq.put (by omega) (fullB_size _)) fun w8 h8 => ⟨_, rfl, ?_, ?_⟩⟩
    · refine ⟨n + 1, by rw [wrap64 _ (by omega) (by omega)]; rfl, by omega, take_small hlt hsm hsz, ?_⟩
      rw [List.take_add_one, List.getElem?_eq_getElem hlt, Option.toList_some, written_snoc]
      have e : l.getD (n : Int).toNat noB = l[n] := by
        rw [show ((n : Nat) : Int).toNat = n by omega, List.getD_eq_getElem?_getD, List.getElem?_eq_getElem hlt]; rfl
      rw [e] at h8
      exact h8
    · show ((l.length : Int) - IntKind.i64.wrap ((n : Int) + 1)).toNat < ((l.length : Int) - (n : Int)).toNat
      rw [wrap64 _ (by omega) (by omega)]; omega
  · have hn' : n = l.length := by omega
    subst hn'
    rw [List.take_length] at h6 hsm
    obtain ⟨q1, q2, q3, q4, q5⟩ := written_on start_on l
    rw [start_is.1] at q2
    rw [start_is.2.1, List.nil_append] at q3
    have q5 := q5 start_is.2.2
    have hfew := written_few start_few l
    have final : ∀ (w9 : World) (keep : List UInt8) (pk : Option Addr) (ck : Nat) (X : List A) (want : ByteArray), Dr d (written startA l) [] w w9 X → keep.length ≤ 1 → (∀ w1, T [] w w1 X → bytesAt w1 pk keep) →
        (if l.map fullB = [] then firstB else if 0 < keepG keep 0 (l.map fullB).length then (l.map fullB).getD (keepG keep 0 (l.map fullB).length - 1) noB else firstB) = want →
        Calls Try.prog 17 #[.pointer (some ⟨d, 0, none⟩), .slice pk keep.length ck] w9 fun e_11 w15 => e_11 = .returned (.tuple #[]) ∧
          Calls Try.prog 18 #[.pointer (some ⟨d, 0, none⟩), .int .i64 0] w15 fun e_12 w16 => ∃ s79_0 : ByteArray, ∃ n79_1 : Int, e_12 = .returned (.tuple #[.string s79_0, .int .i64 n79_1]) ∧
          ((n79_1 == 0) = true → ((s79_0.toList == want.toList) = true → Calls Try.prog 19 #[.pointer (some ⟨d, 0, none⟩)] w16 fun e_13 w17 => ∃ n91 : Int, e_13 = .returned (.int .i64 n91) ∧ RetR w (.bool true) (.bool (n91 == 0)) w17) ∧
            ((s79_0.toList == want.toList) = false → RetR w (.bool true) (.bool false) w16)) ∧ ((n79_1 == 0) = false → RetR w (.bool true) (.bool false) w16) := by
      intro w9 keep pk ck X want h9 hkl hk hw
      obtain ⟨c1, c2, c3⟩ := crash_read q1.dead q2 q5 keep
      rw [q3, hw] at c2
      refine (crash_a h9 (hfew.mono (by omega)) keep pk ck (by omega) hk).mono fun e w10 ⟨he, h10⟩ => ⟨he, read_u h10 (fun j => by rw [c3]; exact Nat.zero_le _) c2 fun w11 h11 => ⟨_, _, rfl, yes rfl (yes (same_str _) (pending_u h11 (fun j => by rw [c3]; exact Nat.zero_le _) (n := 0) (pending_none c3) fun w12 h12 => ⟨_, rfl, rfl, h12.ext⟩))⟩⟩
    have empty : ∀ (w9 : World) (k : Nat), Dr d (written startA l) [] w w9 [blk k #[] 5] → Calls Try.prog 17 #[.pointer (some ⟨d, 0, none⟩), .slice (some ⟨k, 0, none⟩) 0 0] w9 fun e_11 w15 => e_11 = .returned (.tuple #[]) ∧
          Calls Try.prog 18 #[.pointer (some ⟨d, 0, none⟩), .int .i64 0] w15 fun e_12 w16 => ∃ s79_0 : ByteArray, ∃ n79_1 : Int, e_12 = .returned (.tuple #[.string s79_0, .int .i64 n79_1]) ∧
          ((n79_1 == 0) = true → ((s79_0.toList == firstB.toList) = true → Calls Try.prog 19 #[.pointer (some ⟨d, 0, none⟩)] w16 fun e_13 w17 => ∃ n91 : Int, e_13 = .returned (.int .i64 n91) ∧ RetR w (.bool true) (.bool (n91 == 0)) w17) ∧
            ((s79_0.toList == firstB.toList) = false → RetR w (.bool true) (.bool false) w16)) ∧ ((n79_1 == 0) = false → RetR w (.bool true) (.bool false) w16) :=
      fun w9 k h9 => final w9 [] _ 0 _ firstB h9 (by decide) (fun w1 h1 => ⟨fun h => absurd rfl h, fun a ha j b hb => by simp at hb⟩) (by
        have : keepG [] 0 (l.map fullB).length = 0 := rfl
        rw [this]; simp)
    refine (?_ : Alloc _ _ _ _)
    obtain ⟨D, hDp, hA, hT6⟩ := h6
    refine Alloc.t hT6 fun k w7 hT7 => ?_
    have h7 : Dr d (written startA l) [] w w7 [blk k #[] 5] := ⟨D, hDp, hA, hT7⟩
    refine full_u h7 (size_lit [102, 105, 114, 115, 116] (by decide)) fun w8 h8 => ⟨_, rfl, Join.intro fun J hJ => ?_⟩
    refine ⟨fun hall => ⟨dec_t fun hpos => ?_, dec_f fun hz => hJ _ _ ⟨_, _, _, _, rfl, empty w8 k h8⟩⟩, fun _ => hJ _ _ ⟨_, _, _, _, rfl, empty w8 k h8⟩⟩
    obtain ⟨D8, hD8, hA8, hT8⟩ := h8
    have hlen : l.length ≤ 60 := by omega
    refine Alloc.t hT8 fun k2 w9 hT9 => ?_
    have hw8 : IntKind.u8.wrap (l.length : Int) = ((l.length : Nat) : Int) := by
      have : (l.length : Int) % 256 = (l.length : Int) := by omega
      simp [IntKind.wrap, IntKind.bits, IntKind.signed, this]
    rw [hw8] at hT9
    have hrow : T [] w w9 (rowP 5 1 (some k) 0 0 [] :: blk k2 #[.int .u8 ((l.length : Nat) : Int)] 5 :: drvL D8) :=
      (hT9.swap (.swap _ _ _)).weak rfl fun g hg => ⟨rfl, Nat.le_refl _, by decide, #[], hg, rfl, rfl⟩
    obtain ⟨g', cap', w10, hr, hT10⟩ := append_t (P := Try.prog) (t := 30) (ty := 30) (e := 5) (i := Try.t5) (z := .int .u8 0) (size := 1) #[false, false] (by kernel_rfl) (by kernel_rfl) (by kernel_rfl) (by kernel_rfl) (by kernel_rfl)
        hrow .head (a := ⟨k2, 0, none⟩) (m := 1) (c := 1) (news := [.int .u8 ((l.length : Nat) : Int)]) rfl (fun j u hu => by
          rw [addr_add, Nat.zero_add]
          exact hrow.ld (by first | exact List.Mem.head _ | exact List.Mem.tail _ (List.Mem.head _) | exact List.Mem.tail _ (List.Mem.tail _ (List.Mem.head _)) | exact List.Mem.tail _ (List.Mem.tail _ (List.Mem.tail _ (List.Mem.head _))) | exact List.Mem.tail _ (List.Mem.tail _ (List.Mem.tail _ (List.Mem.tail _ (List.Mem.head _)))) | exact List.Mem.tail _ (List.Mem.tail _ (List.Mem.tail _ (List.Mem.tail _ (List.Mem.tail _ (List.Mem.head _))))) | exact List.Mem.tail _ (List.Mem.tail _ (List.Mem.tail _ (List.Mem.tail _ (List.Mem.tail _ (List.Mem.tail _ (List.Mem.head _)))))) | exact List.Mem.tail _ (List.Mem.tail _ (List.Mem.tail _ (List.Mem.tail _ (List.Mem.tail _ (List.Mem.tail _ (List.Mem.tail _ (List.Mem.head _))))))) | exact List.Mem.tail _ (List.Mem.tail _ (List.Mem.tail _ (List.Mem.tail _ (List.Mem.tail _ (List.Mem.tail _ (List.Mem.tail _ (List.Mem.tail _ (List.Mem.head _)))))))) | exact List.Mem.tail _ (List.Mem.tail _ (List.Mem.tail _ (List.Mem.tail _ (List.Mem.tail _ (List.Mem.tail _ (List.Mem.tail _ (List.Mem.tail _ (List.Mem.tail _ (List.Mem.head _))))))))) | exact List.Mem.tail _ (List.Mem.tail _ (List.Mem.tail _ (List.Mem.tail _ (List.Mem.tail _ (List.Mem.tail _ (List.Mem.tail _ (List.Mem.tail _ (List.Mem.tail _ (List.Mem.tail _ (List.Mem.head _)))))))))) | exact List.Mem.tail _ (List.Mem.tail _ (List.Mem.tail _ (List.Mem.tail _ (List.Mem.tail _ (List.Mem.tail _ (List.Mem.tail _ (List.Mem.tail _ (List.Mem.tail _ (List.Mem.tail _ (List.Mem.tail _ (List.Mem.head _)))))))))))) (by simpa using hu)) (fun u hu => by obtain rfl := List.mem_singleton.1 hu; rfl) (by decide) (by
          have hb : Try.t5.bytes = 1 := by kernel_rfl
          rw [hb]; decide)
    obtain ⟨a, hp, hc⟩ := (hl.ext hT10.chg.ext).get (n := IntKind.i64.wrap ((l.length : Int) - 1)) (by rw [wrap64 _ (by omega) (by omega)]; omega) (by rw [wrap64 _ (by omega) (by omega)]; omega)
    refine ⟨_, _, _, _, hr, a, hp, by rw [wrap64 _ (by omega) (by omega)]; omega, by rw [wrap64 _ (by omega) (by omega)]; omega, _, hc, ?_⟩
    have h10 : Dr d (written startA l) [] w w10 [rowP 5 1 g' (0 + 1) cap' ([] ++ [.int .u8 ((l.length : Nat) : Int)]), blk k2 #[.int .u8 ((l.length : Nat) : Int)] 5] := ⟨D8, hD8, hA8, hT10⟩
    obtain ⟨g0, rfl⟩ := rowP.pos (hT10.says List.mem_cons_self) (by omega)
    have hne : l ≠ [] := by intro e; rw [e] at hpos; simp at hpos
    have hidx : (IntKind.i64.wrap ((l.length : Int) - 1)).toNat = l.length - 1 := by rw [wrap64 _ (by omega) (by omega)]; omega
    have hlast : l.getD (IntKind.i64.wrap ((l.length : Int) - 1)).toNat noB = l.getLast hne := by
      rw [hidx, List.getD_eq_getElem?_getD, List.getElem?_eq_getElem (by omega), ← List.getLast_eq_getElem hne]; rfl
    rw [hlast]
    have hsz : (l.getLast hne).size ≤ 9000000000000000000 := Nat.le_trans (hsm _ (List.getLast_mem hne)) (by decide)
    refine full_u h10 hsz fun w11 h11 => ⟨_, rfl, hJ _ _ ⟨_, _, _, _, rfl, ?_⟩⟩
    refine final w11 [UInt8.ofNat l.length] _ _ _ _ h11 (Nat.le_refl _) (fun w12 hT12 => ⟨fun _ => ⟨_, rfl⟩, fun a ha j b hb => ?_⟩) ?_
    · obtain rfl : (⟨g0, 0, none⟩ : Addr) = a := by simpa using ha
      have hj : j = 0 := by
        cases j with
        | zero => rfl
        | succ j => simp at hb
      subst hj
      obtain rfl : UInt8.ofNat l.length = b := by simpa using hb
      rw [addr_add]
      refine rowP.cell (hT12.says List.mem_cons_self) ?_
      have : (UInt8.ofNat l.length).toNat = l.length := by simp; omega
      simp [this]
    · have hm : (l.map fullB).length = l.length := List.length_map ..
      have hkg : keepG [UInt8.ofNat l.length] 0 (l.map fullB).length = l.length := by
        have h8 : (UInt8.ofNat l.length).toNat = l.length := by simp; omega
        show (if [UInt8.ofNat l.length].length = 0 then 0 else (UInt8.ofNat l.length).toNat % ((l.map fullB).length + 1)) = l.length
        rw [if_neg (by simp), h8, hm]
        exact Nat.mod_eq_of_lt (by omega)
      rw [hkg, if_neg (by simpa using hne), if_pos (by omega), List.getD_eq_getElem?_getD, List.getElem?_map, List.getElem?_eq_getElem (by omega), ← List.getLast_eq_getElem hne]
      rfl
end Go.Proofs.Ytdppllkjibfjcaa
