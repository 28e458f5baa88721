import Derived.Test.YtdppllkjibfjcaaDr2
/-! drive: Read. -/
namespace Go.Proofs.Ytdppllkjibfjcaa
open Go.Sh
set_option linter.unusedVariables false
def wfind (D : DL) (i : Int) : Option WE := D.ws.find? fun e => e.k == i
theorem getK_ws (i : Int) : ∀ ws : List WE, getK i (ws.map WE.ent) = (ws.find? fun e => e.k == i).map fun e => .slice (ptr e.g) e.l.length e.cap
  | [] => rfl
  | e :: ws => by
    simp only [List.map_cons, getK, WE.ent, List.find?_cons]
    by_cases h : e.k = i
    · simp [h]
    · have : (e.k == i) = false := by simpa using h
      simp only [h, if_false, this]
      exact getK_ws i ws
theorem getK_sp {i : Int} : ∀ {l : List Ent}, (∀ x ∈ l, x.2.1 = .bool true) → (getK i l).getD (.bool false) = .bool (getK i l).isSome
  | [], _ => rfl
  | x :: l, h => by
    simp only [getK]
    split
    · simp [h x List.mem_cons_self]
    · exact getK_sp fun y hy => h y (List.mem_cons_of_mem _ hy)
def spoiltG (D : DL) (i : Int) : Bool := (getK i D.sp).isSome
def topG (D : DL) (i : Int) : ByteArray := match wfind D i with
  | some e => e.l.getLastD (ByteArray.mk #[])
  | none => D.safe.getD i.toNat (ByteArray.mk #[])
def readG (D : DL) (i : Int) : ByteArray × Int := if mayG D i ≠ 0 then (ByteArray.mk #[], mayG D i) else if spoiltG D i then (ByteArray.mk #[], 41) else (topG D i, 0)
theorem lookW {D : DL} {w0 w : World} {Δ : List (Nat × Obj)} (h : Has w0 (drvL D)) (hS : S w0 w Δ) (i : Int) :
    (Instr.lookup 82 (.map (some D.bm)) (.int .i64 i) false).run Try.prog w = .ok (match wfind D i with | some e => .slice (ptr e.g) e.l.length e.cap | none => .slice none 0 0) w := by
  have h1 := lookup_ints (P := Try.prog) (t := 82) (kt := 3) (e := 81) (z := .slice none 0 0) (w := w) (b := D.bm) (l := D.ws.map WE.ent) (clock := D.clk) (by kernel_rfl) (by kernel_rfl) (by kernel_rfl)
    (hS.ext.get (h.got (List.Mem.tail _ (List.Mem.tail _ (List.Mem.head _))))) i
  rw [h1, getK_ws]
  unfold wfind
  cases D.ws.find? fun e => e.k == i <;> rfl
theorem lookS {D : DL} {w0 w : World} {Δ : List (Nat × Obj)} (h : Has w0 (drvL D)) (hS : S w0 w Δ) (hD : DOk D) (i : Int) :
    (Instr.lookup 83 (.map (some D.bp)) (.int .i64 i) false).run Try.prog w = .ok (.bool (spoiltG D i)) w := by
  have h1 := lookup_ints (P := Try.prog) (t := 83) (kt := 3) (e := 4) (z := .bool false) (w := w) (b := D.bp) (l := D.sp) (clock := D.clk2) (by kernel_rfl) (by kernel_rfl) (by kernel_rfl)
    (hS.ext.get (h.got (List.Mem.tail _ (List.Mem.tail _ (List.Mem.tail _ (List.Mem.head _)))))) i
  rw [h1, getK_sp hD.sv]; rfl
theorem wfind_mem {D : DL} {i : Int} {e : WE} (h : wfind D i = some e) : e ∈ D.ws ∧ e.k = i := by
  unfold wfind at h
  exact ⟨List.mem_of_find?_eq_some h, by simpa using List.find?_some h⟩
theorem row_mem {D : DL} {e : WE} (h : e ∈ D.ws) : e.row ∈ drvL D := List.mem_append_right _ (List.mem_map_of_mem h)
theorem read_spec (D : DL) (i : Int) (w : World) (h : Has w (drvL D)) (hD : DOk D) (hL : ∀ e ∈ D.ws, e.l.length ≤ 4611686018427387904) : Ret Try.prog 18 #[.pointer (some ⟨D.p, 0, none⟩), .int .i64 i] w (.tuple #[.string (readG D i).1, .int .i64 (readG D i).2]) := by
  refine ret_of (drive_Drive_Read_calls ?_)
  unfold drive_Drive_Read
  have hS := S.start w
  refine Ret.useS hS (may_spec D i _ h) fun w1 hS1 => ⟨_, rfl, _, rfl, _, h.ldA hS1 (by first | exact List.Mem.head _ | exact List.Mem.tail _ (List.Mem.head _) | exact List.Mem.tail _ (List.Mem.tail _ (List.Mem.head _)) | exact List.Mem.tail _ (List.Mem.tail _ (List.Mem.tail _ (List.Mem.head _))) | exact List.Mem.tail _ (List.Mem.tail _ (List.Mem.tail _ (List.Mem.tail _ (List.Mem.head _)))) | exact List.Mem.tail _ (List.Mem.tail _ (List.Mem.tail _ (List.Mem.tail _ (List.Mem.tail _ (List.Mem.head _))))) | exact List.Mem.tail _ (List.Mem.tail _ (List.Mem.tail _ (List.Mem.tail _ (List.Mem.tail _ (List.Mem.tail _ (List.Mem.head _)))))) | exact List.Mem.tail _ (List.Mem.tail _ (List.Mem.tail _ (List.Mem.tail _ (List.Mem.tail _ (List.Mem.tail _ (List.Mem.tail _ (List.Mem.head _))))))) | exact List.Mem.tail _ (List.Mem.tail _ (List.Mem.tail _ (List.Mem.tail _ (List.Mem.tail _ (List.Mem.tail _ (List.Mem.tail _ (List.Mem.tail _ (List.Mem.head _)))))))) | exact List.Mem.tail _ (List.Mem.tail _ (List.Mem.tail _ (List.Mem.tail _ (List.Mem.tail _ (List.Mem.tail _ (List.Mem.tail _ (List.Mem.tail _ (List.Mem.tail _ (List.Mem.head _))))))))) | exact List.Mem.tail _ (List.Mem.tail _ (List.Mem.tail _ (List.Mem.tail _ (List.Mem.tail _ (List.Mem.tail _ (List.Mem.tail _ (List.Mem.tail _ (List.Mem.tail _ (List.Mem.tail _ (List.Mem.head _)))))))))) | exact List.Mem.tail _ (List.Mem.tail _ (List.Mem.tail _ (List.Mem.tail _ (List.Mem.tail _ (List.Mem.tail _ (List.Mem.tail _ (List.Mem.tail _ (List.Mem.tail _ (List.Mem.tail _ (List.Mem.tail _ (List.Mem.head _)))))))))))) rfl, ?_⟩
  have hlk := lookW h hS1 i
  have may0 : mayG D i = 0 → 0 ≤ i ∧ i < (D.safe.length : Int) := by
    intro h0
    unfold mayG at h0
    split at h0
    · cases h0
    split at h0
    · cases h0
    split at h0
    · cases h0
    · omega
  cases hf : wfind D i with
  | none =>
    rw [hf] at hlk
    refine ⟨_, _, _, _, hlk, bne_t fun hm => ⟨by simp only [readG, if_pos hm], hS1.ext⟩, bne_f fun hm => ⟨_, rfl, _, h.ldA hS1 (by first | exact List.Mem.head _ | exact List.Mem.tail _ (List.Mem.head _) | exact List.Mem.tail _ (List.Mem.tail _ (List.Mem.head _)) | exact List.Mem.tail _ (List.Mem.tail _ (List.Mem.tail _ (List.Mem.head _))) | exact List.Mem.tail _ (List.Mem.tail _ (List.Mem.tail _ (List.Mem.tail _ (List.Mem.head _)))) | exact List.Mem.tail _ (List.Mem.tail _ (List.Mem.tail _ (List.Mem.tail _ (List.Mem.tail _ (List.Mem.head _))))) | exact List.Mem.tail _ (List.Mem.tail _ (List.Mem.tail _ (List.Mem.tail _ (List.Mem.tail _ (List.Mem.tail _ (List.Mem.head _)))))) | exact List.Mem.tail _ (List.Mem.tail _ (List.Mem.tail _ (List.Mem.tail _ (List.Mem.tail _ (List.Mem.tail _ (List.Mem.tail _ (List.Mem.head _))))))) | exact List.Mem.tail _ (List.Mem.tail _ (List.Mem.tail _ (List.Mem.tail _ (List.Mem.tail _ (List.Mem.tail _ (List.Mem.tail _ (List.Mem.tail _ (List.Mem.head _)))))))) | exact List.Mem.tail _ (List.Mem.tail _ (List.Mem.tail _ (List.Mem.tail _ (List.Mem.tail _ (List.Mem.tail _ (List.Mem.tail _ (List.Mem.tail _ (List.Mem.tail _ (List.Mem.head _))))))))) | exact List.Mem.tail _ (List.Mem.tail _ (List.Mem.tail _ (List.Mem.tail _ (List.Mem.tail _ (List.Mem.tail _ (List.Mem.tail _ (List.Mem.tail _ (List.Mem.tail _ (List.Mem.tail _ (List.Mem.head _)))))))))) | exact List.Mem.tail _ (List.Mem.tail _ (List.Mem.tail _ (List.Mem.tail _ (List.Mem.tail _ (List.Mem.tail _ (List.Mem.tail _ (List.Mem.tail _ (List.Mem.tail _ (List.Mem.tail _ (List.Mem.tail _ (List.Mem.head _)))))))))))) rfl, _, _, lookS h hS1 hD i, fun hs => ⟨by simp only [readG, hm, ne_eq, not_true, if_false, hs, if_true], hS1.ext⟩, fun hs => ⟨dec_t fun hx => absurd hx (by simp), dec_f fun _ => ?_⟩⟩⟩
    have hb := may0 hm
    have hlt : i.toNat < D.safe.length := by omega
    have hg : D.safe[i.toNat]? = some D.safe[i.toNat] := List.getElem?_eq_getElem hlt
    have h64 := hD.s64 _ (List.mem_of_getElem? hg)
    refine ⟨_, rfl, _, _, _, h.ld hS1 (by first | exact List.Mem.head _ | exact List.Mem.tail _ (List.Mem.head _) | exact List.Mem.tail _ (List.Mem.tail _ (List.Mem.head _)) | exact List.Mem.tail _ (List.Mem.tail _ (List.Mem.tail _ (List.Mem.head _))) | exact List.Mem.tail _ (List.Mem.tail _ (List.Mem.tail _ (List.Mem.tail _ (List.Mem.head _)))) | exact List.Mem.tail _ (List.Mem.tail _ (List.Mem.tail _ (List.Mem.tail _ (List.Mem.tail _ (List.Mem.head _))))) | exact List.Mem.tail _ (List.Mem.tail _ (List.Mem.tail _ (List.Mem.tail _ (List.Mem.tail _ (List.Mem.tail _ (List.Mem.head _)))))) | exact List.Mem.tail _ (List.Mem.tail _ (List.Mem.tail _ (List.Mem.tail _ (List.Mem.tail _ (List.Mem.tail _ (List.Mem.tail _ (List.Mem.head _))))))) | exact List.Mem.tail _ (List.Mem.tail _ (List.Mem.tail _ (List.Mem.tail _ (List.Mem.tail _ (List.Mem.tail _ (List.Mem.tail _ (List.Mem.tail _ (List.Mem.head _)))))))) | exact List.Mem.tail _ (List.Mem.tail _ (List.Mem.tail _ (List.Mem.tail _ (List.Mem.tail _ (List.Mem.tail _ (List.Mem.tail _ (List.Mem.tail _ (List.Mem.tail _ (List.Mem.head _))))))))) | exact List.Mem.tail _ (List.Mem.tail _ (List.Mem.tail _ (List.Mem.tail _ (List.Mem.tail _ (List.Mem.tail _ (List.Mem.tail _ (List.Mem.tail _ (List.Mem.tail _ (List.Mem.tail _ (List.Mem.head _)))))))))) | exact List.Mem.tail _ (List.Mem.tail _ (List.Mem.tail _ (List.Mem.tail _ (List.Mem.tail _ (List.Mem.tail _ (List.Mem.tail _ (List.Mem.tail _ (List.Mem.tail _ (List.Mem.tail _ (List.Mem.tail _ (List.Mem.head _)))))))))))) rfl, _, rfl, by omega, by omega, _, _, _, _, sec_slice _ _, _, _, sec_string h64 (row_cells h hS1 (List.Mem.tail _ (List.Mem.head _)) hD.s64 hg), ?_, hS1.ext⟩
    simp only [readG, hm, ne_eq, not_true, if_false, hs, Bool.false_eq_true, topG, hf, List.getD, hg, Option.getD_some]
  | some e =>
    rw [hf] at hlk
    obtain ⟨hem, hek⟩ := wfind_mem hf
    have hne := (hD.wk e hem).2.2
    have hpos : 0 < e.l.length := by cases hl : e.l with | nil => exact absurd hl hne | cons _ _ => simp
    have hll := hL e hem
    obtain ⟨b, hgb⟩ := rowP.pos (h.holds _ (row_mem hem)) hpos
    refine ⟨_, _, _, _, hlk, bne_t fun hm => ⟨by simp only [readG, if_pos hm], hS1.ext⟩, bne_f fun hm => ⟨_, rfl, _, h.ldA hS1 (by first | exact List.Mem.head _ | exact List.Mem.tail _ (List.Mem.head _) | exact List.Mem.tail _ (List.Mem.tail _ (List.Mem.head _)) | exact List.Mem.tail _ (List.Mem.tail _ (List.Mem.tail _ (List.Mem.head _))) | exact List.Mem.tail _ (List.Mem.tail _ (List.Mem.tail _ (List.Mem.tail _ (List.Mem.head _)))) | exact List.Mem.tail _ (List.Mem.tail _ (List.Mem.tail _ (List.Mem.tail _ (List.Mem.tail _ (List.Mem.head _))))) | exact List.Mem.tail _ (List.Mem.tail _ (List.Mem.tail _ (List.Mem.tail _ (List.Mem.tail _ (List.Mem.tail _ (List.Mem.head _)))))) | exact List.Mem.tail _ (List.Mem.tail _ (List.Mem.tail _ (List.Mem.tail _ (List.Mem.tail _ (List.Mem.tail _ (List.Mem.tail _ (List.Mem.head _))))))) | exact List.Mem.tail _ (List.Mem.tail _ (List.Mem.tail _ (List.Mem.tail _ (List.Mem.tail _ (List.Mem.tail _ (List.Mem.tail _ (List.Mem.tail _ (List.Mem.head _)))))))) | exact List.Mem.tail _ (List.Mem.tail _ (List.Mem.tail _ (List.Mem.tail _ (List.Mem.tail _ (List.Mem.tail _ (List.Mem.tail _ (List.Mem.tail _ (List.Mem.tail _ (List.Mem.head _))))))))) | exact List.Mem.tail _ (List.Mem.tail _ (List.Mem.tail _ (List.Mem.tail _ (List.Mem.tail _ (List.Mem.tail _ (List.Mem.tail _ (List.Mem.tail _ (List.Mem.tail _ (List.Mem.tail _ (List.Mem.head _)))))))))) | exact List.Mem.tail _ (List.Mem.tail _ (List.Mem.tail _ (List.Mem.tail _ (List.Mem.tail _ (List.Mem.tail _ (List.Mem.tail _ (List.Mem.tail _ (List.Mem.tail _ (List.Mem.tail _ (List.Mem.tail _ (List.Mem.head _)))))))))))) rfl, _, _, lookS h hS1 hD i, fun hs => ⟨by simp only [readG, hm, ne_eq, not_true, if_false, hs, if_true], hS1.ext⟩, fun hs => ⟨dec_t fun _ => ?_, dec_f fun hx => absurd hx (by omega)⟩⟩⟩
    have hw : IntKind.i64.wrap ((e.l.length : Int) - 1) = (e.l.length : Int) - 1 := wrap64 _ (by omega) (by omega)
    rw [hw, hgb]
    have ht : ((e.l.length : Int) - 1).toNat = e.l.length - 1 := by omega
    have hg : e.l[((e.l.length : Int) - 1).toNat]? = some (e.l.getLast hne) := by rw [ht, List.getLast_eq_getElem]; exact List.getElem?_eq_getElem (by omega)
    have h64 := hD.w64 e hem _ (List.mem_of_getElem? hg)
    have hrow : rowP 88 64 (some b) e.l.length e.cap (flat e.l) ∈ drvL D := by
      have := row_mem hem
      unfold WE.row at this
      rwa [hgb] at this
    refine ⟨_, rfl, by omega, by omega, _, _, _, _, sec_slice _ _, _, _, sec_string h64 (row_cells h hS1 hrow (hD.w64 e hem) hg), ?_, hS1.ext⟩
    simp only [readG, hm, ne_eq, not_true, if_false, hs, Bool.false_eq_true, topG, hf]
    rw [List.getLastD_eq_getLast?, List.getLast?_eq_some_getLast hne]; rfl
end Go.Proofs.Ytdppllkjibfjcaa
