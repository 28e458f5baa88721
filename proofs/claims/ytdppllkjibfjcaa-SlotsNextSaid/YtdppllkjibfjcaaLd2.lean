import Derived.Test.YtdppllkjibfjcaaLd1
/-! drive's laws: DriveSpoils, DriveKeeps. -/
namespace Go.Proofs.Ytdppllkjibfjcaa
open Go.Sh Go.Maps Go.RowKit
set_option linter.unusedVariables false
set_option maxHeartbeats 2000000
set_option maxRecDepth 20000
theorem cell_ext {w w' : World} (h : Ext w w') {a : Addr} {v : Value} (hc : w.cell? a = some v) : w'.cell? a = some v := by
  have hb : a.block < w.heap.size := by
    unfold World.cell? at hc
    cases hh : w.heap[a.block]? with
    | none => rw [hh] at hc; split at hc <;> simp_all
    | some o => exact lt_of_heap hh
  unfold World.cell? at hc ⊢
  rw [h.heap _ hb]
  exact hc
/-- texts that lie in a row -/
def strsAt (w : World) (p : Option Addr) (l : List ByteArray) : Prop := (l ≠ [] → ∃ a, p = some a) ∧ ∀ a, p = some a → ∀ j s, l[j]? = some s → w.cell? (a.add j) = some (.string s)
theorem strsAt.ext {w w' : World} {p : Option Addr} {l : List ByteArray} (h : strsAt w p l) (hx : Ext w w') : strsAt w' p l := ⟨h.1, fun a ha j s hs => cell_ext hx (h.2 a ha j s hs)⟩
theorem bytesAt.ext {w w' : World} {p : Option Addr} {l : List UInt8} (h : bytesAt w p l) (hx : Ext w w') : bytesAt w' p l := ⟨h.1, fun a ha j s hs => cell_ext hx (h.2 a ha j s hs)⟩
theorem strsAt.get {w : World} {p : Option Addr} {l : List ByteArray} (h : strsAt w p l) {n : Int} (h0 : 0 ≤ n) (h1 : n < (l.length : Int)) : ∃ a, p = some a ∧ w.cell? (a.add (n.toNat * 1)) = some (.string (l.getD n.toNat noB)) := by
  obtain ⟨a, ha⟩ := h.1 (by intro e; subst e; simp at h1; omega)
  refine ⟨a, ha, ?_⟩
  rw [Nat.mul_one]
  have hlt : n.toNat < l.length := by omega
  have := h.2 a ha n.toNat l[n.toNat] (List.getElem?_eq_getElem hlt)
  rw [this, List.getD_eq_getElem?_getD, List.getElem?_eq_getElem hlt]; rfl
/-- the bound of the statements: texts that are too long -/
theorem shown_end {w w1 : World} (hx : Ext w w1) : Calls Try.prog 12 #[] w1 fun e w2 => ∃ b : Bool, e = .returned (.bool b) ∧ RetR w (.bool true) (.bool b) w2 :=
  (shown_spec w1).mono fun e w2 ⟨he, hx2⟩ => ⟨true, he, rfl, hx.trans hx2⟩
theorem read_on {a : AD} {n : Nat} (h : a.On n) {i : Int} (hi : 0 ≤ i ∧ i < (n : Int)) : a.read i = if a.spoilt i.toNat then (noB, 41) else (a.top i.toNat, 0) := AD.read_of (h.may hi)
theorem spoils_spec (s t : ByteArray) (i : Int) (hi : 0 ≤ i ∧ i ≤ 255) (w : World) : Ret Try.prog 5 #[.string s, .string t, .int .u8 i] w (.bool true) := by
  refine ret_of (revetmentlaw04_DriveSpoils_calls ?_)
  unfold revetmentlaw04_DriveSpoils
  refine ⟨dec_t fun _ => shown_end (.refl w), dec_f fun hs => ⟨dec_t fun _ => shown_end (.refl w), dec_f fun ht => ?_⟩⟩
  refine shown_u (T.nil w) fun w1 h1 => ⟨_, rfl, no rfl (new_u (n := 5) h1 (by omega) fun p w2 h2 => ⟨_, rfl, no rfl ?_⟩)⟩
  have hk : 0 ≤ Int.tmod (IntKind.i64.wrap i) 5 ∧ Int.tmod (IntKind.i64.wrap i) 5 < 5 := by
    rw [wrap64 _ (by omega) (by omega), Int.tmod_eq_emod_of_nonneg hi.1]; omega
  generalize Int.tmod (IntKind.i64.wrap i) 5 = k at hk ⊢
  have ho : 0 ≤ Int.tmod (IntKind.i64.wrap (k + 1)) 5 ∧ Int.tmod (IntKind.i64.wrap (k + 1)) 5 < 5 ∧ Int.tmod (IntKind.i64.wrap (k + 1)) 5 ≠ k := by
    rw [wrap64 _ (by omega) (by omega), Int.tmod_eq_emod_of_nonneg (by omega)]; omega
  generalize Int.tmod (IntKind.i64.wrap (k + 1)) 5 = o at ho ⊢
  have hs9 : s.size ≤ 9000000000000000000 := by omega
  have ht9 : t.size ≤ 9000000000000000000 := by omega
  have hS := fullB_size s
  have hT := fullB_size t
  generalize eS : fullB s = S at hS
  generalize eT : fullB t = U at hT
  have nk : o.toNat ≠ k.toNat := by omega
  have o0 := AD.On.new 5
  have p1 := o0.put hk hS
  have o1 := o0.write k S
  have p2 := o1.put ⟨ho.1, ho.2.1⟩ hT
  have o2 := o1.write o U
  have m3 := o2.may hk
  have o3 := o2.spoil k
  have f4 := o3.flush1
  have o4 := o3.flush
  have p5 := o4.put hk hT
  have o5 := o4.write k U
  have e1 : ∀ j, (((AD.new 5).write k S).write o U).top j = if j = o.toNat then U else if j = k.toNat then S else (AD.new 5).top j := fun j => by rw [AD.write_top p2, AD.write_top p1]
  have r3k : ((((AD.new 5).write k S).write o U).spoil k).read k = (noB, 41) := by rw [read_on o3 hk, AD.spoil_of m3]; simp
  have r3o : ((((AD.new 5).write k S).write o U).spoil k).read o = (U, 0) := by
    rw [read_on o3 ⟨ho.1, ho.2.1⟩]
    have h1 : ((((AD.new 5).write k S).write o U).spoil k).spoilt o.toNat = false := by
      rw [AD.spoil_of m3, AD.write_of p2]; simp [nk]
    have h2 : ((((AD.new 5).write k S).write o U).spoil k).top o.toNat = U := by
      have : ∀ j, ((((AD.new 5).write k S).write o U).spoil k).top j = (((AD.new 5).write k S).write o U).top j := fun j => by rw [AD.spoil_of m3]; rfl
      rw [this, e1, if_pos rfl]
    rw [h1, h2]; rfl
  have fl := AD.flush_safe f4 (j := k.toNat) (by rw [o3.len]; omega)
  have r4k : ((((AD.new 5).write k S).write o U).spoil k).flush.read k = (noB, 41) := by
    rw [read_on o4 hk, fl.2.2, AD.spoil_of m3]; simp
  have s4k : ((((AD.new 5).write k S).write o U).spoil k).flush.safe.getD k.toNat noB = S := by
    rw [fl.1]
    have : ((((AD.new 5).write k S).write o U).spoil k).top k.toNat = (((AD.new 5).write k S).write o U).top k.toNat := by rw [AD.spoil_of m3]; rfl
    rw [this, e1, if_neg (fun e => nk e.symm), if_pos rfl]
  have r5k : (((((AD.new 5).write k S).write o U).spoil k).flush.write k U).read k = (U, 0) := by
    rw [read_on o5 hk, AD.write_top p5, AD.write_of p5]; simp
  have s5k : (((((AD.new 5).write k S).write o U).spoil k).flush.write k U).safeAt k = (S, 0) := by
    unfold AD.safeAt
    rw [o5.len, if_neg (by omega), AD.write_of p5]
    show (_, (0 : Int)) = _
    rw [s4k]
  have m6 : (((((AD.new 5).write k S).write o U).spoil k).flush.write k U).may 5 = 70 := by
    unfold AD.may AD.off
    rw [o5.dead, o5.power, o5.len]
    rfl
  have few : ∀ n, n ≤ 10 → (AD.new 5).Few n := fun n _ => few_new 5 n
  have f0 : (AD.new 5).Few 0 := few_new 5 0
  have g1 := f0.write k S
  have g2 := g1.write o U
  have g3 := g2.spoil k
  have g4 := g3.flush
  have g5 := g4.write k U
  refine full_u h2 hs9 fun w3 h3 => ⟨_, rfl, ?_⟩
  rw [eS]
  refine write_u h3 (f0.mono (by decide)) p1 fun w4 h4 => ⟨_, rfl, no rfl (full_u h4 ht9 fun w5 h5 => ⟨_, rfl, ?_⟩)⟩
  rw [eT]
  refine write_u h5 (g1.mono (by decide)) p2 fun w6 h6 => ⟨_, rfl, no rfl (spoil_u h6 m3 fun w7 h7 => ⟨_, rfl, no rfl ?_⟩)⟩
  refine read_u h7 (g3.mono (by decide)) r3k fun w8 h8 => ⟨_, _, rfl, read_u h8 (g3.mono (by decide)) r3o fun w9 h9 => ⟨_, _, rfl, flush_u h9 (g3.mono (by decide)) f4 fun w10 h10 => ⟨_, rfl, read_u h10 (g4.mono (by decide)) r4k fun w11 h11 => ⟨_, _, rfl, no rfl (no (by simp) (no rfl ?_))⟩⟩⟩⟩
  refine full_u h11 ht9 fun w12 h12 => ⟨_, rfl, ?_⟩
  rw [eT]
  refine no (by simp) (no rfl (full_u h12 ht9 fun w13 h13 => ⟨_, rfl, ?_⟩))
  rw [eT]
  refine write_u h13 (g4.mono (by decide)) p5 fun w14 h14 => ⟨_, rfl, no rfl (read_u h14 (g5.mono (by decide)) r5k fun w15 h15 => ⟨_, _, rfl, safe_u h15 s5k fun w16 h16 => ⟨_, _, rfl, yes rfl (full_u h16 ht9 fun w17 h17 => ⟨_, rfl, ?_⟩)⟩⟩)⟩
  rw [eT]
  refine yes (same_str _) (yes rfl (full_u h17 hs9 fun w18 h18 => ⟨_, rfl, ?_⟩))
  rw [eS]
  exact yes (same_str _) (spoil_u h18 m6 fun w19 h19 => ⟨_, rfl, rfl, h19.ext⟩)
end Go.Proofs.Ytdppllkjibfjcaa
