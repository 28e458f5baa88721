import Derived.Test.YtignilchdffafaaGreatLa3
/-! law06: RefillNone. -/
namespace Go.Proofs.YtignilchdffafaaGreat
open Go.Sh Go.RowKit
set_option linter.unusedVariables false
set_option linter.unusedSimpArgs false
set_option maxRecDepth 20000
set_option maxHeartbeats 2000000
theorem sqL_all (L : List Txt) (n : Nat) : AllLen (sqL L n) 12 := fun j hj => by rw [sqL_len] at hj; rw [sqL_get L hj, sq1_len]
theorem AllLen.take {L : List Txt} {m : Nat} (h : AllLen L m) (n : Nat) : AllLen (L.take n) m := fun j hj => by
  rw [List.length_take] at hj
  rw [take_get _ _ _ (by omega)]
  exact h j (by omega)
theorem none_law {l : List ByteArray} {p : Option Addr} {c : Nat} {w : World} (H : strsAt w p l) {m : Int} (hm : 0 ≤ m ∧ m < 256) :
    Ret Tryz.prog 6 #[.slice p l.length c, .int .u8 m] w (.bool true) := by
  refine ret_of (revetmentlaw06_RefillNone_calls ?_)
  unfold revetmentlaw06_RefillNone
  have hL := bls_strs H
  rw [← bls_len l]
  generalize bls l = L at hL
  refine (heavy_spec (n := 0) hL).mono fun e w1 ⟨he, hx1⟩ => ⟨_, he, fun hh => shown_end hx1, fun hh => ?_⟩
  obtain ⟨h20, _, hS, _⟩ := heavy_short hh
  obtain ⟨en, n4, n10⟩ := cols_eq hm
  rw [en]
  generalize colsN m = n at n4 n10
  refine (shown_spec w1).mono fun e w3 ⟨he, hx3⟩ => ⟨_, he, no rfl ?_⟩
  refine (square_spec (n := n) (by omega) (by omega) hS hL ((T.nil w).quiet (hx1.trans hx3))).mono fun e w5 ⟨g, cr, he, h5⟩ => ⟨_, _, _, he, ?_⟩
  obtain ⟨b0, rfl⟩ : ∃ b, g = some b := rowP.pos (h5.says List.mem_cons_self) (by omega)
  have hR12 := sqL_all L n
  have hRS := sqL_short L n
  have hRk : ∀ lost : List Int, (∀ x ∈ lost, 0 ≤ x ∧ x < (n : Int)) → lost.Nodup → OkM (sqL L n) lost := fun lost => sqL_ok n4 n10
  have hsl : (sqL L n).length = n := sqL_len L n
  generalize sqL L n = R at h5 hR12 hRS hRk hsl
  have f1 := fill_spec (L := R) (lost := []) (c := cr) (d := 0) (by simp) (by omega) hRS (T.rowS h5 List.mem_cons_self).1 (q := none) ⟨fun h => absurd rfl h, fun a ha => by cases ha⟩
  rw [hsl] at f1
  refine f1.mono fun e w6 hr1 => ?_
  rcases hr1 with ⟨_, _, b1, c1, he1, h6⟩ | ⟨n', _, _, _, h60, _⟩
  rotate_left
  · exact absurd (h60 (hRk [] (by simp) (by simp))).1 (by simp)
  refine ⟨_, _, _, _, he1, ?_⟩
  rw [fill_none] at h6
  have h6 := T.call (Γ := []) h5 h6
  have ea : IntKind.i64.wrap ((n : Int) - 2) = ((n - 2 : Nat) : Int) := by rw [wrap64 _ (by omega) (by omega)]; omega
  have eb : IntKind.i64.wrap ((n : Int) - 1) = ((n - 1 : Nat) : Int) := by rw [wrap64 _ (by omega) (by omega)]; omega
  rw [ea, eb]
  refine Alloc.t h6 fun k38 w7 h7 => ?_
  have h7 : T [] w w7 (rowP 3 1 (some k38) 2 2 (intsI [((n - 2 : Nat) : Int), ((n - 1 : Nat) : Int)]) :: rowP 9 1 (some b1) n c1 (txts R) :: [rowP 9 1 (some b0) n cr (txts R)]) := blk_row h7 rfl rfl (by decide)
  have hk2 : OkM R [((n - 2 : Nat) : Int), ((n - 1 : Nat) : Int)] := hRk _ (fun x hx => by simp at hx; omega) (by simp; omega)
  have f2 := fill_spec (L := R) (lost := [((n - 2 : Nat) : Int), ((n - 1 : Nat) : Int)]) (c := cr) (d := 2) (by simp) (by omega) hRS (T.rowS h7 (b := b0) (by repeat (first | exact List.Mem.head _ | refine List.Mem.tail _ ?_))).1 (T.ints h7 List.mem_cons_self).1
  rw [hsl] at f2
  refine f2.mono fun e w8 hr2 => ?_
  rcases hr2 with ⟨_, _, b2, c2, he2, h8⟩ | ⟨n', _, _, _, h60, _⟩
  rotate_left
  · exact absurd (h60 hk2).1 (by simp)
  have h8 := T.call (Γ := []) h7 h8
  have ef : fillF R [((n - 2 : Nat) : Int), ((n - 1 : Nat) : Int)] = makeF (R.take (n - 2)) := by
    have := fill_pq (R := R) (by omega)
    rw [hsl] at this; exact this
  rw [ef] at h8
  have hst := T.rowS h8 (b := b0) (L := R) (n := n) (cap := cr) (by repeat (first | exact List.Mem.head _ | refine List.Mem.tail _ ?_))
  have hcr : n ≤ cr := hst.2.2
  refine ⟨_, _, _, _, he2, _, _, _, w8, strs_to (n := n) (c := cr) (hi := ((n - 2 : Nat) : Int)) (by omega) (by omega) w8, ?_⟩
  rw [Int.toNat_natCast]
  have htl : (R.take (n - 2)).length = n - 2 := by rw [List.length_take]; omega
  have f3 := make_spec (L := R.take (n - 2)) (c := cr) (by omega) (hRS.take _) (by omega) (hst.1.take _)
  rw [htl] at f3
  refine f3.mono fun e w10 hr3 => ?_
  have hk3 : OkM (makeF (R.take (n - 2))) [] := makeF_ok (hR12.take _) (by omega) (by omega) (by omega)
  rcases hr3 with ⟨_, b3, c3, he3, h10⟩ | ⟨hno, _⟩
  rotate_left
  · exact absurd hk3 hno
  have h10 := T.call (Γ := []) h8 h10
  refine ⟨_, _, _, _, he3, yes rfl ?_⟩
  have l1 := T.rowS h10 (b := b1) (L := R) (n := n) (cap := c1) (by repeat (first | exact List.Mem.head _ | refine List.Mem.tail _ ?_))
  have l0 := T.rowS h10 (b := b0) (L := R) (n := n) (cap := cr) (by repeat (first | exact List.Mem.head _ | refine List.Mem.tail _ ?_))
  have s1 := same_spec (A := R) (B := R) (c := c1) (d := cr) (by omega) l1.1 l0.1
  rw [hsl] at s1
  refine s1.mono fun e w11 ⟨he, hx11⟩ => ⟨_, he, yes (decide_eq_true rfl) (yes rfl (yes rfl ?_))⟩
  have h11 := h10.quiet hx11
  have l2 := T.rowS h11 (b := b2) (L := makeF (R.take (n - 2))) (n := n) (cap := c2) (by repeat (first | exact List.Mem.head _ | refine List.Mem.tail _ ?_))
  have l3 := T.rowS h11 (b := b3) (L := makeF (R.take (n - 2))) (n := n - 2 + 2) (cap := c3) (by repeat (first | exact List.Mem.head _ | refine List.Mem.tail _ ?_))
  have hml : (makeF (R.take (n - 2))).length = n := l2.2.1
  have s2 := same_spec (A := makeF (R.take (n - 2))) (B := makeF (R.take (n - 2))) (c := c2) (d := c3) (by omega) l2.1 l3.1
  rw [hml] at s2
  have e2 : n - 2 + 2 = n := by omega
  rw [e2]
  exact s2.mono fun e w12 ⟨he, hx12⟩ => ⟨_, he, by rw [decide_eq_true rfl], h11.chg.ext.trans hx12⟩
end Go.Proofs.YtignilchdffafaaGreat
