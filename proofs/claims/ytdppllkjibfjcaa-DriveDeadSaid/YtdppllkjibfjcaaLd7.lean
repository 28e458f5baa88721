import Derived.Test.YtdppllkjibfjcaaLd6
import Derived.Test.YtdppllkjibfjcaaRow2
/-! drive's laws: DriveDead. -/
namespace Go.Proofs.Ytdppllkjibfjcaa
open Go.Sh Go.Maps Go.RowKit
set_option linter.unusedVariables false
set_option maxHeartbeats 2000000
set_option maxRecDepth 20000
/-- an act, as it lies -/
structure AV where
  k : Int
  i : Int
  s : ByteArray
  p : Option Addr
  c : Nat
  keep : List UInt8
structure ActAt (w : World) (a : Addr) (x : AV) : Prop where
  k : w.cell? a = some (.int .i64 x.k)
  i : w.cell? (a.add 1) = some (.int .i64 x.i)
  s : w.cell? (a.add 2) = some (.string x.s)
  keep : w.cell? (a.add 3) = some (.slice x.p x.keep.length x.c)
  bytes : bytesAt w x.p x.keep
  small : x.i ≤ 9223372036854775807
def actsAt (w : World) (p : Option Addr) (l : List AV) : Prop := (l ≠ [] → ∃ a, p = some a) ∧ ∀ a, p = some a → ∀ j x, l[j]? = some x → ActAt w (a.add (j * 4)) x
theorem ActAt.ext {w w' : World} {a : Addr} {x : AV} (h : ActAt w a x) (hx : Ext w w') : ActAt w' a x := ⟨cell_ext hx h.k, cell_ext hx h.i, cell_ext hx h.s, cell_ext hx h.keep, h.bytes.ext hx, h.small⟩
theorem actsAt.ext {w w' : World} {p : Option Addr} {l : List AV} (h : actsAt w p l) (hx : Ext w w') : actsAt w' p l := ⟨h.1, fun a ha j x hj => (h.2 a ha j x hj).ext hx⟩
theorem actsAt.get {w : World} {p : Option Addr} {l : List AV} (h : actsAt w p l) {n : Nat} (h1 : n < l.length) : ∃ a, p = some a ∧ ActAt w (a.add (n * 4)) l[n] := by
  obtain ⟨a, ha⟩ := h.1 (by intro e; subst e; simp at h1)
  exact ⟨a, ha, h.2 a ha n _ (List.getElem?_eq_getElem h1)⟩
def heavyG (l : List AV) : Bool := decide (150 < l.length) || l.any fun x => decide (100 < x.s.size) || decide (50 < x.keep.length)
theorem heavy_spec (l : List AV) (p : Option Addr) (c : Nat) (w : World) (hl : actsAt w p l) : Ret Try.prog 24 #[.slice p l.length c] w (.bool (heavyG l)) := by
  refine ret_of (revetmentlaw04_heavy_calls ?_)
  unfold revetmentlaw04_heavy
  refine ⟨dec_t fun h => ⟨?_, .refl w⟩, dec_f fun hn => ?_⟩
  · unfold heavyG; rw [decide_eq_true (by omega)]; rfl
  refine ⟨fun vs w' => ∃ n : Nat, vs = [.int .i64 n] ∧ n ≤ l.length ∧ (l.take n).any (fun x => decide (100 < x.s.size) || decide (50 < x.keep.length)) = false ∧ Ext w w', fun vs _ => match vs with | [.int _ n] => (l.length - n).toNat | _ => 0, ⟨0, rfl, by omega, rfl, .refl w⟩, ?_⟩
  rintro vs w1 ⟨n, rfl, hnl, hs, hx⟩
  refine ⟨_, rfl, dec_t fun hlt => ?_, dec_f fun hge => ⟨?_, hx⟩⟩
  · have hlt : n < l.length := by omega
    obtain ⟨a, ha, hat⟩ := (hl.ext hx).get hlt
    have big : (decide (100 < l[n].s.size) || decide (50 < l[n].keep.length)) = true → Value.bool true = .bool (heavyG l) := fun h => by
      have : l.any (fun x => decide (100 < x.s.size) || decide (50 < x.keep.length)) = true := List.any_eq_true.2 ⟨l[n], List.getElem_mem hlt, h⟩
      unfold heavyG; rw [this, Bool.or_true]
    rw [show ((n : Nat) : Int).toNat = n by omega]
    refine ⟨a, ha, by omega, by omega, _, hat.s, dec_t fun h1 => ⟨big (by rw [decide_eq_true (show 100 < l[n].s.size by omega)]; rfl), hx⟩, dec_f fun h1 => ⟨a, ha, by omega, by omega, _, _, _, hat.keep, dec_t fun h2 => ⟨big (by rw [decide_eq_true (show 50 < l[n].keep.length by omega), Bool.or_true]), hx⟩, dec_f fun h2 => ⟨⟨n + 1, by rw [wrap64 _ (by omega) (by omega)]; rfl, by omega, ?_, hx⟩, ?_⟩⟩⟩
    · rw [List.take_add_one, List.getElem?_eq_getElem hlt, List.any_append, hs]
      simp; omega
    · show ((l.length : Int) - IntKind.i64.wrap ((n : Int) + 1)).toNat < ((l.length : Int) - (n : Int)).toNat
      rw [wrap64 _ (by omega) (by omega)]; omega
  · have : n = l.length := by omega
    subst this
    rw [List.take_length] at hs
    unfold heavyG
    rw [hs, decide_eq_false (by omega)]; rfl
theorem keptFrom_none (g : Nat → Nat → Nat) (pend : Nat → List ByteArray) (h : ∀ i, pend i = []) : ∀ (l : List ByteArray) (i k : Nat), keptFrom g pend i k l = l
  | [], _, _ => rfl
  | s :: l, i, k => by
    simp only [keptFrom, h i, if_true, keptFrom_none g pend h l]
/-- a drive that is dead, with that text safe in sector 2 -/
structure Dead2 (a : AD) (x : ByteArray) : Prop where
  dead : a.dead = true
  pend : ∀ i, a.pend i = []
  len : a.safe.length = 5
  at2 : a.safe.getD 2 noB = x
theorem Dead2.may {a : AD} {x : ByteArray} (h : Dead2 a x) (i : Int) : a.may i = 40 := by unfold AD.may; rw [if_pos h.dead]
theorem Dead2.put {a : AD} {x : ByteArray} (h : Dead2 a x) (i : Int) (s : ByteArray) : a.put i s = 40 := by unfold AD.put; rw [h.may]; rfl
theorem Dead2.flush1 {a : AD} {x : ByteArray} (h : Dead2 a x) : a.flush1 = 40 := by unfold AD.flush1; rw [if_pos h.dead]
theorem Dead2.few {a : AD} {x : ByteArray} (h : Dead2 a x) (N : Nat) : a.Few N := fun j => by rw [h.pend]; exact Nat.zero_le _
theorem Dead2.act {a : AD} {x : ByteArray} (h : Dead2 a x) (k i : Int) (s : ByteArray) (keep : List UInt8) : Dead2 (actA a k i s keep) x := by
  have hw : ∀ s, a.write i s = a := fun s => by unfold AD.write; rw [if_pos (by rw [h.put]; decide)]
  have hc : ∀ s, a.change i s = a := fun s => by unfold AD.change; rw [if_pos (by rw [h.put]; decide)]
  have hs : a.spoil i = a := by unfold AD.spoil; rw [if_pos (by rw [h.may]; decide)]
  have hf : a.flush = a := by unfold AD.flush; rw [if_pos (by rw [h.flush1]; decide)]
  have hk : (a.crash keep).safe = a.safe := keptFrom_none _ _ h.pend _ _ _
  unfold actA
  rw [hw, hw, hc, hs, hf]
  by_cases h0 : k = 0
  · rw [if_pos h0]; exact h
  rw [if_neg h0]
  by_cases h1 : k = 1
  · rw [if_pos h1]; exact h
  rw [if_neg h1]
  by_cases h2 : k = 2
  · rw [if_pos h2]; exact h
  rw [if_neg h2]
  by_cases h3 : k = 3
  · rw [if_pos h3]; exact h
  rw [if_neg h3]
  by_cases h4 : k = 4
  · rw [if_pos h4]; exact ⟨h.dead, fun _ => rfl, by rw [hk]; exact h.len, by rw [hk]; exact h.at2⟩
  rw [if_neg h4]
  by_cases h5 : k = 5
  · rw [if_pos h5]; exact h
  rw [if_neg h5]
  by_cases h6 : k = 6
  · rw [if_pos h6]; exact h
  rw [if_neg h6]
  by_cases h7 : k = 7
  · rw [if_pos h7]; exact ⟨rfl, h.pend, h.len, h.at2⟩
  rw [if_neg h7]
  by_cases h9 : k = 9
  · rw [if_pos h9]; exact ⟨h.dead, h.pend, h.len, h.at2⟩
  rw [if_neg h9]
  exact h
theorem dead_law (s : ByteArray) (i : Int) (l : List AV) (p : Option Addr) (c : Nat) (w : World) (hl : actsAt w p l) : Ret Try.prog 7 #[.string s, .int .i64 i, .slice p l.length c] w (.bool true) := by
  refine ret_of (revetmentlaw04_DriveDead_calls ?_)
  unfold revetmentlaw04_DriveDead
  refine (heavy_spec l p c w hl).mono fun e w1 ⟨he, hx⟩ => ⟨_, he, fun hh => shown_end hx, fun hh => ⟨dec_t fun _ => shown_end hx, dec_f fun hs => ?_⟩⟩
  have hs9 : s.size ≤ 9000000000000000000 := by omega
  have hln : l.length ≤ 150 := by
    unfold heavyG at hh
    simp only [Bool.or_eq_false_iff, decide_eq_false_iff_not] at hh
    omega
  have hll : ∀ x ∈ l, x.s.size ≤ 100 ∧ x.keep.length ≤ 50 := by
    intro x hxl
    unfold heavyG at hh
    simp only [Bool.or_eq_false_iff, List.any_eq_false, decide_eq_false_iff_not, Bool.not_eq_true] at hh
    have := hh.2 x hxl
    omega
  refine shown_u (T.nil w |>.quiet hx) fun w2 h2 => ⟨_, rfl, no rfl (new_u (n := 5) h2 (by omega) fun d w3 h3 => ⟨_, rfl, ?_⟩)⟩
  obtain ⟨D, hD1, hD2, hT3⟩ := h3
  refine (rnew_r 5 hT3 (by omega)).mono fun e w4 ⟨q, he, h4⟩ => ⟨_, he, no rfl ?_⟩
  have h4 : Two d q (AD.new 5) [] w w4 [] := Two.make hD1 hD2 h4
  have hS := fullB_size s
  refine (full_spec s hs9 w4).mono fun e w5 ⟨he, hx5⟩ => ⟨_, he, ?_⟩
  have on0 := AD.On.new 5
  have pz := on0.put (i := 2) (by omega) hS
  have on1 := on0.write 2 (fullB s)
  -- the program's drive first, then the reference's: each writes and flushes
  obtain ⟨R, hR1, hR2, hd⟩ := (h4.quiet hx5).one
  refine write_u hd (few_new _ _) pz fun w6 h6 => ⟨_, rfl, no rfl (flush_u h6 ((few_new 5 0).write _ _ |>.mono (by decide)) on1.flush1 fun w7 h7 => ⟨_, rfl, no rfl ?_⟩)⟩
  refine (full_spec s hs9 w7).mono fun e w8 ⟨he, hx8⟩ => ⟨_, he, ?_⟩
  obtain ⟨D2, hE1, hE2, hr⟩ := Two.of_one hR1 hR2 (h7.quiet hx8)
  refine (rwrite_r hr (few_new _ _) 2 (fullB s)).mono fun e w9 ⟨he, hr9⟩ => ⟨0, he.trans (by rw [pz]), no rfl ?_⟩
  refine (rflush_r hr9 ((few_new 5 0).write _ _ |>.mono (by decide))).mono fun e w10 ⟨he, hr10⟩ => ⟨0, he.trans (by rw [on1.flush1]), no rfl ?_⟩
  have h10 : Two d q ((AD.new 5).write 2 (fullB s)).flush [] w w10 [] := Two.make hE1 hE2 hr10
  have fl := AD.flush_safe on1.flush1 (j := 2) (by rw [on1.len]; decide)
  have hd0 : Dead2 ((AD.new 5).write 2 (fullB s)).flush.die (fullB s) := by
    refine ⟨rfl, fun j => ?_, on1.flush.len, ?_⟩
    · show ((AD.new 5).write 2 (fullB s)).flush.pend j = []
      rw [AD.flush_of on1.flush1]; rfl
    · show ((AD.new 5).write 2 (fullB s)).flush.safe.getD 2 noB = _
      rw [fl.1, AD.write_top pz]; rfl
  refine (die_2 h10).mono fun e w11 ⟨he, hK⟩ => ⟨he, _, rfl, hK _ fun w12 h12 => ?_⟩
  refine ⟨fun vs w' => ∃ (n : Nat) (a : AD), vs = [.int .i64 n] ∧ n ≤ l.length ∧ Dead2 a (fullB s) ∧ Two d q a [] w w' [], fun vs _ => match vs with | [.int _ n] => (l.length - n).toNat | _ => 0, ⟨0, _, rfl, by omega, hd0, h12⟩, ?_⟩
  rintro vs w13 ⟨n, a, rfl, hnl, hdd, h13⟩
  refine ⟨_, rfl, dec_t fun hlt => ?_, dec_f fun hge => ?_⟩
  · have hlt : n < l.length := by omega
    obtain ⟨ad, had, hat⟩ := (hl.ext h13.ext).get hlt
    rw [show ((n : Nat) : Int).toNat = n by omega]
    obtain ⟨hz1, hz2⟩ := hll _ (List.getElem_mem hlt)
    have hbase : bytesAt w l[n].p l[n].keep := (hl.2 ad had n _ (List.getElem?_eq_getElem hlt)).bytes
    refine ⟨ad, had, by omega, by omega, _, _, _, _, _, _, ⟨hat.k, hat.i, hat.s, hat.keep⟩, ?_⟩
    refine (does_spec h13 (hdd.few _) l[n].k l[n].i hat.small l[n].s (by omega) l[n].keep (by omega) l[n].p l[n].c hbase).mono fun e w14 ⟨he, h14⟩ => ⟨_, he, no rfl ⟨⟨n + 1, _, by rw [wrap64 _ (by omega) (by omega)]; rfl, by omega, hdd.act _ _ _ _, h14⟩, ?_⟩⟩
    show ((l.length : Int) - IntKind.i64.wrap ((n : Int) + 1)).toNat < ((l.length : Int) - (n : Int)).toNat
    rw [wrap64 _ (by omega) (by omega)]; omega
  · obtain ⟨R, hR1, hR2, hd⟩ := h13.one
    have hsafe : a.safeAt 2 = (fullB s, 0) := by
      unfold AD.safeAt
      rw [hdd.len, if_neg (by omega)]
      exact congrArg (fun x => (x, (0 : Int))) hdd.at2
    have hread : a.read i = (noB, 40) := by unfold AD.read; rw [hdd.may, if_pos (by decide)]
    have huw : a.write i (fullB s) = a := by unfold AD.write; rw [if_pos (by rw [hdd.put]; decide)]
    have hus : a.spoil i = a := by unfold AD.spoil; rw [if_pos (by rw [hdd.may]; decide)]
    have huf : a.flush = a := by unfold AD.flush; rw [if_pos (by rw [hdd.flush1]; decide)]
    have huc : a.change i s = a := by unfold AD.change; rw [if_pos (by rw [hdd.put]; decide)]
    refine safe_u hd hsafe fun w14 h14 => ⟨_, _, rfl, read_u h14 (hdd.few _) hread fun w15 h15 => ⟨_, _, rfl, full_u h15 hs9 fun w16 h16 => ⟨_, rfl, yes (same_str _) (yes rfl (yes rfl (full_u h16 hs9 fun w17 h17 => ⟨_, rfl, write_u h17 (hdd.few _) (hdd.put _ _) fun w18 h18 => ⟨_, rfl, yes rfl ?_⟩⟩)))⟩⟩⟩
    rw [huw] at h18
    refine flush_u h18 (hdd.few _) hdd.flush1 fun w19 h19 => ⟨_, rfl, yes rfl ?_⟩
    rw [huf] at h19
    refine spoil_u h19 (hdd.may i) fun w20 h20 => ⟨_, rfl, yes rfl ?_⟩
    rw [hus] at h20
    refine change_u h20 (hdd.put i s) fun w21 h21 => ⟨_, rfl, yes rfl ?_⟩
    rw [huc] at h21
    exact (dead_a h21).mono fun e w22 ⟨he, hx22⟩ => ⟨_, he, by rw [hdd.dead], (h21.quiet hx22).ext⟩
end Go.Proofs.Ytdppllkjibfjcaa
