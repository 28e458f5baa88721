import Derived.Test.YtdppllkjibfjcaaDr1
import Derived.Laws.IdiomStrings
/-! drive: what is read. -/
namespace Go.Proofs.Ytdppllkjibfjcaa
open Go.Sh
set_option linter.unusedVariables false
theorem data_len (s : ByteArray) : s.data.toList.length = s.size := Array.length_toList
theorem vals_len (s : ByteArray) : (vals s).length = s.size := by rw [vals, List.length_map, data_len]
theorem flat_len {l : List ByteArray} (h : ∀ s ∈ l, s.size = 64) : (flat l).length = l.length * 64 := by
  induction l with
  | nil => rfl
  | cons s l ih =>
    have h1 := h s List.mem_cons_self
    have h2 := ih fun x hx => h x (List.mem_cons_of_mem _ hx)
    simp only [flat, List.flatMap_cons, List.length_append, vals_len, h1, List.length_cons] at h2 ⊢
    omega
theorem flat_get {l : List ByteArray} (h : ∀ s ∈ l, s.size = 64) : ∀ (i j : Nat) (s : ByteArray), l[i]? = some s → j < 64 → (flat l)[i * 64 + j]? = (vals s)[j]? := by
  induction l with
  | nil => intro i j s hs; simp at hs
  | cons x l ih =>
    intro i j s hs hj
    have hx := h x List.mem_cons_self
    have e : flat (x :: l) = vals x ++ flat l := rfl
    rw [e]
    cases i with
    | zero =>
      simp at hs
      subst hs
      rw [List.getElem?_append_left (by rw [vals_len]; omega)]
      simp
    | succ i =>
      rw [List.getElem?_append_right (by rw [vals_len]; omega), vals_len, hx, show (i + 1) * 64 + j - 64 = i * 64 + j by omega]
      exact ih (fun y hy => h y (List.mem_cons_of_mem _ hy)) i j s (by simpa using hs) hj
theorem vals_get {s : ByteArray} {j : Nat} (hj : j < s.size) : (vals s)[j]? = some (.int .u8 ((s.data.toList[j]'(by rw [data_len]; exact hj)).toNat : Int)) := by
  have h : j < s.data.toList.length := by rw [data_len]; exact hj
  simp [vals, List.getElem?_map, List.getElem?_eq_getElem h]
theorem sec_slice (a : Addr) (w : World) : (Instr.sliceAt 88 (.pointer (some a)) none none none).run Try.prog w = .ok (.slice (some a) 64 64) w := by kernel_rfl
theorem sec_string {a : Addr} {s : ByteArray} {w : World} (hs : s.size = 64) (h : ∀ j, j < 64 → w.cell? (a.add j) = (vals s)[j]?) : (convert 30 9 (.slice (some a) 64 64)).run Try.prog w = .ok (.string s) w := by
  have hl : s.data.toList.length = 64 := by rw [data_len]; exact hs
  have h1 := run_convert_bytes_back (P := Try.prog) w 30 9 5 a 64 s.data.toList (by kernel_rfl) (by kernel_rfl) (by kernel_rfl) (fun j hj => by
    rw [h j (by omega), vals_get (by omega)])
  rw [hl] at h1
  simpa using h1
/-- a drive that may be -/
structure DOk (D : DL) : Prop where
  s64 : ∀ s ∈ D.safe, s.size = 64
  n1 : 1 ≤ D.safe.length ∧ D.safe.length ≤ 4096
  w64 : ∀ e ∈ D.ws, ∀ s ∈ e.l, s.size = 64
  wk : ∀ e ∈ D.ws, 0 ≤ e.k ∧ e.k < (D.safe.length : Int) ∧ e.l ≠ []
  wn : (D.ws.map (·.k)).Nodup
  sv : ∀ x ∈ D.sp, x.2.1 = .bool true
  sn : (D.sp.map (·.1)).Nodup
  wb : ∀ e ∈ D.ws, e.born < D.clk
  wd : (D.ws.map (·.born)).Nodup
def safeG (D : DL) (i : Int) : ByteArray × Int := if i < 0 ∨ i ≥ (D.safe.length : Int) then (ByteArray.mk #[], 70) else (D.safe.getD i.toNat (ByteArray.mk #[]), 0)
theorem row_cells {w0 w : World} {Γ : List A} {Δ : List (Nat × Obj)} (h : Has w0 Γ) (hS : S w0 w Δ) {e : TypeId} {b n cap i : Nat} {l : List ByteArray} {s : ByteArray} (hm : rowP e 64 (some b) n cap (flat l) ∈ Γ) (h64 : ∀ s ∈ l, s.size = 64) (hs : l[i]? = some s) :
    ∀ j, j < 64 → w.cell? ((Addr.add ⟨b, 0, none⟩ (i * 64)).add j) = (vals s)[j]? := by
  intro j hj
  have h64s : s.size = 64 := h64 s (List.mem_of_getElem? hs)
  rw [addr_add, addr_add, Nat.zero_add, vals_get (by omega)]
  refine rowP.cell ((h.ext hS.ext).holds _ hm) ?_
  rw [flat_get h64 i j s hs hj, vals_get (by omega)]
theorem safe_spec (D : DL) (i : Int) (w : World) (h : Has w (drvL D)) (hD : DOk D) : Ret Try.prog 22 #[.pointer (some ⟨D.p, 0, none⟩), .int .i64 i] w (.tuple #[.string (safeG D i).1, .int .i64 (safeG D i).2]) := by
  refine ret_of (drive_Drive_Safe_calls ?_)
  unfold drive_Drive_Safe
  have hS := S.start w
  refine ⟨dec_t fun hi => ⟨by simp only [safeG, if_pos (show i < 0 ∨ i ≥ (D.safe.length : Int) from .inl hi)], hS.ext⟩, dec_f fun hi => ⟨_, rfl, _, _, _, h.ld hS (by first | exact List.Mem.head _ | exact List.Mem.tail _ (List.Mem.head _) | exact List.Mem.tail _ (List.Mem.tail _ (List.Mem.head _)) | exact List.Mem.tail _ (List.Mem.tail _ (List.Mem.tail _ (List.Mem.head _))) | exact List.Mem.tail _ (List.Mem.tail _ (List.Mem.tail _ (List.Mem.tail _ (List.Mem.head _)))) | exact List.Mem.tail _ (List.Mem.tail _ (List.Mem.tail _ (List.Mem.tail _ (List.Mem.tail _ (List.Mem.head _))))) | exact List.Mem.tail _ (List.Mem.tail _ (List.Mem.tail _ (List.Mem.tail _ (List.Mem.tail _ (List.Mem.tail _ (List.Mem.head _)))))) | exact List.Mem.tail _ (List.Mem.tail _ (List.Mem.tail _ (List.Mem.tail _ (List.Mem.tail _ (List.Mem.tail _ (List.Mem.tail _ (List.Mem.head _))))))) | exact List.Mem.tail _ (List.Mem.tail _ (List.Mem.tail _ (List.Mem.tail _ (List.Mem.tail _ (List.Mem.tail _ (List.Mem.tail _ (List.Mem.tail _ (List.Mem.head _)))))))) | exact List.Mem.tail _ (List.Mem.tail _ (List.Mem.tail _ (List.Mem.tail _ (List.Mem.tail _ (List.Mem.tail _ (List.Mem.tail _ (List.Mem.tail _ (List.Mem.tail _ (List.Mem.head _))))))))) | exact List.Mem.tail _ (List.Mem.tail _ (List.Mem.tail _ (List.Mem.tail _ (List.Mem.tail _ (List.Mem.tail _ (List.Mem.tail _ (List.Mem.tail _ (List.Mem.tail _ (List.Mem.tail _ (List.Mem.head _)))))))))) | exact List.Mem.tail _ (List.Mem.tail _ (List.Mem.tail _ (List.Mem.tail _ (List.Mem.tail _ (List.Mem.tail _ (List.Mem.tail _ (List.Mem.tail _ (List.Mem.tail _ (List.Mem.tail _ (List.Mem.tail _ (List.Mem.head _)))))))))))) rfl, dec_t fun hi2 => ⟨by simp only [safeG, if_pos (show i < 0 ∨ i ≥ (D.safe.length : Int) from .inr hi2)], hS.ext⟩, dec_f fun hi2 => ?_⟩⟩
  have hlt : i.toNat < D.safe.length := by omega
  have hg : D.safe[i.toNat]? = some D.safe[i.toNat] := List.getElem?_eq_getElem hlt
  have h64 := hD.s64 _ (List.mem_of_getElem? hg)
  refine ⟨_, rfl, _, _, _, h.ld hS (by first | exact List.Mem.head _ | exact List.Mem.tail _ (List.Mem.head _) | exact List.Mem.tail _ (List.Mem.tail _ (List.Mem.head _)) | exact List.Mem.tail _ (List.Mem.tail _ (List.Mem.tail _ (List.Mem.head _))) | exact List.Mem.tail _ (List.Mem.tail _ (List.Mem.tail _ (List.Mem.tail _ (List.Mem.head _)))) | exact List.Mem.tail _ (List.Mem.tail _ (List.Mem.tail _ (List.Mem.tail _ (List.Mem.tail _ (List.Mem.head _))))) | exact List.Mem.tail _ (List.Mem.tail _ (List.Mem.tail _ (List.Mem.tail _ (List.Mem.tail _ (List.Mem.tail _ (List.Mem.head _)))))) | exact List.Mem.tail _ (List.Mem.tail _ (List.Mem.tail _ (List.Mem.tail _ (List.Mem.tail _ (List.Mem.tail _ (List.Mem.tail _ (List.Mem.head _))))))) | exact List.Mem.tail _ (List.Mem.tail _ (List.Mem.tail _ (List.Mem.tail _ (List.Mem.tail _ (List.Mem.tail _ (List.Mem.tail _ (List.Mem.tail _ (List.Mem.head _)))))))) | exact List.Mem.tail _ (List.Mem.tail _ (List.Mem.tail _ (List.Mem.tail _ (List.Mem.tail _ (List.Mem.tail _ (List.Mem.tail _ (List.Mem.tail _ (List.Mem.tail _ (List.Mem.head _))))))))) | exact List.Mem.tail _ (List.Mem.tail _ (List.Mem.tail _ (List.Mem.tail _ (List.Mem.tail _ (List.Mem.tail _ (List.Mem.tail _ (List.Mem.tail _ (List.Mem.tail _ (List.Mem.tail _ (List.Mem.head _)))))))))) | exact List.Mem.tail _ (List.Mem.tail _ (List.Mem.tail _ (List.Mem.tail _ (List.Mem.tail _ (List.Mem.tail _ (List.Mem.tail _ (List.Mem.tail _ (List.Mem.tail _ (List.Mem.tail _ (List.Mem.tail _ (List.Mem.head _)))))))))))) rfl, _, rfl, by omega, by omega, _, _, _, _, sec_slice _ _, _, _, sec_string h64 (row_cells h hS (List.Mem.tail _ (List.Mem.head _)) hD.s64 hg), ?_, hS.ext⟩
  simp only [safeG, if_neg (show ¬ (i < 0 ∨ i ≥ (D.safe.length : Int)) by omega), List.getD, hg, Option.getD_some]
end Go.Proofs.Ytdppllkjibfjcaa
