import Derived.Test.YtdppllkjibfjcaaDr13
/-! drive: Flush, Crash, Pending. -/
namespace Go.Proofs.Ytdppllkjibfjcaa
open Go.Sh Go.Maps
set_option linter.unusedVariables false
set_option maxHeartbeats 1000000
set_option maxRecDepth 20000
def flushG (D : DL) : Int := if D.dead then 40 else if offG D then 42 else 0
def flushed (D : DL) : DL := settled (fun _ m => m) { D with left := IntKind.i64.wrap (D.left - 1) }
theorem DOk.left {D : DL} (h : DOk D) (n : Int) (c : Bool) : DOk { D with left := n, cut := c } := ⟨h.s64, h.n1, h.w64, h.wk, h.wn, h.sv, h.sn, h.wb, h.wd⟩
theorem nodup_lt : ∀ (n : Nat) (l : List Nat), l.Nodup → (∀ x ∈ l, x < n) → l.length ≤ n
  | 0, [], _, _ => Nat.le_refl _
  | 0, x :: l, _, h => absurd (h x List.mem_cons_self) (by omega)
  | n + 1, l, hn, h => by
    have h1 := nodup_lt n (l.filter (fun x => x != n)) (hn.filter _) fun x hx => by
      have h2 := List.mem_filter.1 hx
      have h3 := h x h2.1
      have h4 : x ≠ n := by simpa using h2.2
      omega
    have h5 := List.length_eq_countP_add_countP (l := l) (fun x => x != n)
    have h6 : l.countP (fun a => decide ¬((a != n) = true)) ≤ 1 := by
      have h7 := List.nodup_iff_count.1 hn n
      have : l.countP (fun a => decide ¬((a != n) = true)) = l.count n := by
        unfold List.count
        congr 1
        funext x
        by_cases hx : x = n <;> simp [hx]
      omega
    rw [List.countP_eq_length_filter] at h5
    omega
theorem ws_few {D : DL} (h : DOk D) : D.ws.length ≤ 4096 := by
  have h1 : (D.ws.map (·.k)).Nodup := h.wn
  have h2 : ((D.ws.map (·.k)).map Int.toNat).Nodup := by
    refine List.pairwise_map.2 (List.Pairwise.imp_of_mem ?_ h1)
    intro a b ha hb hab
    obtain ⟨x, hx, rfl⟩ := List.mem_map.1 ha
    obtain ⟨y, hy, rfl⟩ := List.mem_map.1 hb
    have := (h.wk x hx).1
    have := (h.wk y hy).1
    omega
  have h3 := nodup_lt 4096 _ h2 fun i hi => by
    obtain ⟨k, hk, rfl⟩ := List.mem_map.1 hi
    obtain ⟨x, hx, rfl⟩ := List.mem_map.1 hk
    have h4 := h.wk x hx
    have h5 := h.n1
    omega
  simpa using h3
theorem flush_spec (D : DL) {F : List Nat} {w0 w : World} {X : List A} (hT : T F w0 w (X ++ drvL D)) (hD : DOk D) (hL : ∀ e ∈ D.ws, e.l.length ≤ 1000000) :
    Calls Try.prog 16 #[.pointer (some ⟨D.p, 0, none⟩)] w fun e w' => ∃ v, e = .returned v ∧ v = .int .i64 (flushG D) ∧ (flushG D = 0 → T F w0 w' (X ++ drvL (flushed D))) ∧ (flushG D ≠ 0 → T F w0 w' (X ++ drvL D)) := by
  refine drive_Drive_Flush_calls ?_
  unfold drive_Drive_Flush
  have h1 : T F w0 w (drvL D ++ X) := hT.swap List.perm_append_comm
  refine ⟨_, rfl, _, h1.ldA (by first | exact List.Mem.head _ | exact List.Mem.tail _ (List.Mem.head _) | exact List.Mem.tail _ (List.Mem.tail _ (List.Mem.head _)) | exact List.Mem.tail _ (List.Mem.tail _ (List.Mem.tail _ (List.Mem.head _))) | exact List.Mem.tail _ (List.Mem.tail _ (List.Mem.tail _ (List.Mem.tail _ (List.Mem.head _)))) | exact List.Mem.tail _ (List.Mem.tail _ (List.Mem.tail _ (List.Mem.tail _ (List.Mem.tail _ (List.Mem.head _))))) | exact List.Mem.tail _ (List.Mem.tail _ (List.Mem.tail _ (List.Mem.tail _ (List.Mem.tail _ (List.Mem.tail _ (List.Mem.head _)))))) | exact List.Mem.tail _ (List.Mem.tail _ (List.Mem.tail _ (List.Mem.tail _ (List.Mem.tail _ (List.Mem.tail _ (List.Mem.tail _ (List.Mem.head _))))))) | exact List.Mem.tail _ (List.Mem.tail _ (List.Mem.tail _ (List.Mem.tail _ (List.Mem.tail _ (List.Mem.tail _ (List.Mem.tail _ (List.Mem.tail _ (List.Mem.head _)))))))) | exact List.Mem.tail _ (List.Mem.tail _ (List.Mem.tail _ (List.Mem.tail _ (List.Mem.tail _ (List.Mem.tail _ (List.Mem.tail _ (List.Mem.tail _ (List.Mem.tail _ (List.Mem.head _))))))))) | exact List.Mem.tail _ (List.Mem.tail _ (List.Mem.tail _ (List.Mem.tail _ (List.Mem.tail _ (List.Mem.tail _ (List.Mem.tail _ (List.Mem.tail _ (List.Mem.tail _ (List.Mem.tail _ (List.Mem.head _)))))))))) | exact List.Mem.tail _ (List.Mem.tail _ (List.Mem.tail _ (List.Mem.tail _ (List.Mem.tail _ (List.Mem.tail _ (List.Mem.tail _ (List.Mem.tail _ (List.Mem.tail _ (List.Mem.tail _ (List.Mem.tail _ (List.Mem.head _)))))))))))) rfl, fun hd => ?_, fun hd => ?_⟩
  · have : flushG D = 40 := by simp [flushG, hd]
    exact ⟨by rw [this], fun h => by omega, fun _ => hT⟩
  · refine Ret.useT hT (off_spec D _ (T.sub hT)) fun w1 hT1 => ⟨_, rfl, fun ho => ?_, fun ho => ?_⟩
    · have : flushG D = 42 := by simp [flushG, hd, ho]
      exact ⟨by rw [this], fun h => by omega, fun _ => hT1⟩
    · have hz : flushG D = 0 := by simp [flushG, hd, ho]
      have h2 : T F w0 w1 (drvL D ++ X) := hT1.swap List.perm_append_comm
      refine ⟨_, rfl, _, h2.ldA (by first | exact List.Mem.head _ | exact List.Mem.tail _ (List.Mem.head _) | exact List.Mem.tail _ (List.Mem.tail _ (List.Mem.head _)) | exact List.Mem.tail _ (List.Mem.tail _ (List.Mem.tail _ (List.Mem.head _))) | exact List.Mem.tail _ (List.Mem.tail _ (List.Mem.tail _ (List.Mem.tail _ (List.Mem.head _)))) | exact List.Mem.tail _ (List.Mem.tail _ (List.Mem.tail _ (List.Mem.tail _ (List.Mem.tail _ (List.Mem.head _))))) | exact List.Mem.tail _ (List.Mem.tail _ (List.Mem.tail _ (List.Mem.tail _ (List.Mem.tail _ (List.Mem.tail _ (List.Mem.head _)))))) | exact List.Mem.tail _ (List.Mem.tail _ (List.Mem.tail _ (List.Mem.tail _ (List.Mem.tail _ (List.Mem.tail _ (List.Mem.tail _ (List.Mem.head _))))))) | exact List.Mem.tail _ (List.Mem.tail _ (List.Mem.tail _ (List.Mem.tail _ (List.Mem.tail _ (List.Mem.tail _ (List.Mem.tail _ (List.Mem.tail _ (List.Mem.head _)))))))) | exact List.Mem.tail _ (List.Mem.tail _ (List.Mem.tail _ (List.Mem.tail _ (List.Mem.tail _ (List.Mem.tail _ (List.Mem.tail _ (List.Mem.tail _ (List.Mem.tail _ (List.Mem.head _))))))))) | exact List.Mem.tail _ (List.Mem.tail _ (List.Mem.tail _ (List.Mem.tail _ (List.Mem.tail _ (List.Mem.tail _ (List.Mem.tail _ (List.Mem.tail _ (List.Mem.tail _ (List.Mem.tail _ (List.Mem.head _)))))))))) | exact List.Mem.tail _ (List.Mem.tail _ (List.Mem.tail _ (List.Mem.tail _ (List.Mem.tail _ (List.Mem.tail _ (List.Mem.tail _ (List.Mem.tail _ (List.Mem.tail _ (List.Mem.tail _ (List.Mem.tail _ (List.Mem.head _)))))))))))) rfl, _, rfl, ?_⟩
      refine St.tA h2 .head (by simp) (by rfl) rfl fun w3 h3 => ?_
      have h4 : T F w0 w3 (drvL { D with left := IntKind.i64.wrap (D.left - 1) } ++ X) := h3
      have hok : DOk { D with left := IntKind.i64.wrap (D.left - 1) } := hD.left _ D.cut
      refine (settle_spec { D with left := IntKind.i64.wrap (D.left - 1) } _ (fun _ m => m) (h4.swap List.perm_append_comm) hok (fun _ _ => Nat.le_refl _) hL (ws_few hok) fun j m w5 hT5 hj hm => ?_).mono fun e w' ⟨v, he, hv, ht⟩ => ⟨hv ▸ he, by rw [hz], fun _ => ht, fun h => absurd hz h⟩
      refine CallF.func (by kernel_rfl) ?_
      exact ret_of (drive_Drive_Flush_1_calls ⟨rfl, .refl _⟩)
/-- bytes that lie in a row -/
def bytesAt (w : World) (p : Option Addr) (l : List UInt8) : Prop := (l ≠ [] → ∃ a, p = some a) ∧ ∀ a, p = some a → ∀ j (b : UInt8), l[j]? = some b → w.cell? (a.add j) = some (.int .u8 b.toNat)
def keepG (keep : List UInt8) (k m : Nat) : Nat := if keep.length = 0 then 0 else (keep.getD (k % keep.length) 0).toNat % (m + 1)
theorem keepG_le (keep : List UInt8) (k m : Nat) : keepG keep k m ≤ m := by
  unfold keepG
  split
  · omega
  · have := Nat.mod_lt (keep.getD (k % keep.length) 0).toNat (show m + 1 > 0 by omega); omega
def crashed (D : DL) (keep : List UInt8) : DL := settled (keepG keep) { D with cut := false }
theorem crash_spec (D : DL) (keep : List UInt8) (p : Option Addr) (c : Nat) {F : List Nat} {w0 w : World} {X : List A} (hT : T F w0 w (X ++ drvL D)) (hD : DOk D) (hL : ∀ e ∈ D.ws, e.l.length ≤ 1000000) (hkl : keep.length ≤ 1000000)
    (hk : ∀ w1, T F w0 w1 X → bytesAt w1 p keep) :
    Calls Try.prog 17 #[.pointer (some ⟨D.p, 0, none⟩), .slice p keep.length c] w fun e w' => ∃ v, e = .returned v ∧ v = .tuple #[] ∧ T F w0 w' (X ++ drvL (crashed D keep)) := by
  refine drive_Drive_Crash_calls ?_
  unfold drive_Drive_Crash
  have h1 : T F w0 w (drvL D ++ X) := hT.swap List.perm_append_comm
  refine Alloc.t h1 fun k3 w1 h2 => ⟨_, rfl, ?_⟩
  refine St.tA h2 (.tail .head) (by simp) (by rfl) rfl fun w2 h3 => ?_
  have h4 : T F w0 w2 (blk k3 #[.slice p keep.length c] 30 :: (drvL { D with cut := false } ++ X)) := h3
  have hok : DOk { D with cut := false } := hD.left D.left false
  have h5 : T F w0 w2 ((blk k3 #[.slice p keep.length c] 30 :: X) ++ drvL { D with cut := false }) := h4.swap (List.perm_append_comm.cons _)
  refine (settle_spec { D with cut := false } _ (keepG keep) h5 hok (keepG_le keep) hL (ws_few hok) fun j m w6 hT6 hj hm => ?_).mono fun e w' ⟨v, he, hv, ht⟩ => ⟨hv ▸ he, rfl, T.drop ht⟩
  refine CallF.func (by kernel_rfl) ?_
  refine ret_of (drive_Drive_Crash_1_calls ?_)
  unfold drive_Drive_Crash_1
  obtain ⟨hb1, hb2⟩ := hk w6 (T.drop hT6)
  refine ⟨_, _, _, hT6.ld (by first | exact List.Mem.head _ | exact List.Mem.tail _ (List.Mem.head _) | exact List.Mem.tail _ (List.Mem.tail _ (List.Mem.head _)) | exact List.Mem.tail _ (List.Mem.tail _ (List.Mem.tail _ (List.Mem.head _))) | exact List.Mem.tail _ (List.Mem.tail _ (List.Mem.tail _ (List.Mem.tail _ (List.Mem.head _)))) | exact List.Mem.tail _ (List.Mem.tail _ (List.Mem.tail _ (List.Mem.tail _ (List.Mem.tail _ (List.Mem.head _))))) | exact List.Mem.tail _ (List.Mem.tail _ (List.Mem.tail _ (List.Mem.tail _ (List.Mem.tail _ (List.Mem.tail _ (List.Mem.head _)))))) | exact List.Mem.tail _ (List.Mem.tail _ (List.Mem.tail _ (List.Mem.tail _ (List.Mem.tail _ (List.Mem.tail _ (List.Mem.tail _ (List.Mem.head _))))))) | exact List.Mem.tail _ (List.Mem.tail _ (List.Mem.tail _ (List.Mem.tail _ (List.Mem.tail _ (List.Mem.tail _ (List.Mem.tail _ (List.Mem.tail _ (List.Mem.head _)))))))) | exact List.Mem.tail _ (List.Mem.tail _ (List.Mem.tail _ (List.Mem.tail _ (List.Mem.tail _ (List.Mem.tail _ (List.Mem.tail _ (List.Mem.tail _ (List.Mem.tail _ (List.Mem.head _))))))))) | exact List.Mem.tail _ (List.Mem.tail _ (List.Mem.tail _ (List.Mem.tail _ (List.Mem.tail _ (List.Mem.tail _ (List.Mem.tail _ (List.Mem.tail _ (List.Mem.tail _ (List.Mem.tail _ (List.Mem.head _)))))))))) | exact List.Mem.tail _ (List.Mem.tail _ (List.Mem.tail _ (List.Mem.tail _ (List.Mem.tail _ (List.Mem.tail _ (List.Mem.tail _ (List.Mem.tail _ (List.Mem.tail _ (List.Mem.tail _ (List.Mem.tail _ (List.Mem.head _)))))))))))) rfl, beq_t fun hz => ⟨by simp [keepG, show keep.length = 0 by omega], .refl _⟩, beq_f fun hz => ?_⟩
  obtain ⟨a, rfl⟩ := hb1 (by intro h; apply hz; simp [h])
  have hlt : j % keep.length < keep.length := Nat.mod_lt _ (by omega)
  have htm : Int.tmod (j : Int) (keep.length : Int) = ((j % keep.length : Nat) : Int) := by rw [Int.tmod_eq_emod_of_nonneg (by omega)]; omega
  have hw1 : IntKind.i64.wrap ((m : Int) + 1) = ((m + 1 : Nat) : Int) := by rw [wrap64 _ (by omega) (by omega)]; omega
  rw [hw1]
  refine ⟨fun w => T F w0 w _, hT6.drew, _, _, _, fun w h => h.ld (by first | exact List.Mem.head _ | exact List.Mem.tail _ (List.Mem.head _) | exact List.Mem.tail _ (List.Mem.tail _ (List.Mem.head _)) | exact List.Mem.tail _ (List.Mem.tail _ (List.Mem.tail _ (List.Mem.head _))) | exact List.Mem.tail _ (List.Mem.tail _ (List.Mem.tail _ (List.Mem.tail _ (List.Mem.head _)))) | exact List.Mem.tail _ (List.Mem.tail _ (List.Mem.tail _ (List.Mem.tail _ (List.Mem.tail _ (List.Mem.head _))))) | exact List.Mem.tail _ (List.Mem.tail _ (List.Mem.tail _ (List.Mem.tail _ (List.Mem.tail _ (List.Mem.tail _ (List.Mem.head _)))))) | exact List.Mem.tail _ (List.Mem.tail _ (List.Mem.tail _ (List.Mem.tail _ (List.Mem.tail _ (List.Mem.tail _ (List.Mem.tail _ (List.Mem.head _))))))) | exact List.Mem.tail _ (List.Mem.tail _ (List.Mem.tail _ (List.Mem.tail _ (List.Mem.tail _ (List.Mem.tail _ (List.Mem.tail _ (List.Mem.tail _ (List.Mem.head _)))))))) | exact List.Mem.tail _ (List.Mem.tail _ (List.Mem.tail _ (List.Mem.tail _ (List.Mem.tail _ (List.Mem.tail _ (List.Mem.tail _ (List.Mem.tail _ (List.Mem.tail _ (List.Mem.head _))))))))) | exact List.Mem.tail _ (List.Mem.tail _ (List.Mem.tail _ (List.Mem.tail _ (List.Mem.tail _ (List.Mem.tail _ (List.Mem.tail _ (List.Mem.tail _ (List.Mem.tail _ (List.Mem.tail _ (List.Mem.head _)))))))))) | exact List.Mem.tail _ (List.Mem.tail _ (List.Mem.tail _ (List.Mem.tail _ (List.Mem.tail _ (List.Mem.tail _ (List.Mem.tail _ (List.Mem.tail _ (List.Mem.tail _ (List.Mem.tail _ (List.Mem.tail _ (List.Mem.head _)))))))))))) rfl, _, _, _, fun w h => h.ld (by first | exact List.Mem.head _ | exact List.Mem.tail _ (List.Mem.head _) | exact List.Mem.tail _ (List.Mem.tail _ (List.Mem.head _)) | exact List.Mem.tail _ (List.Mem.tail _ (List.Mem.tail _ (List.Mem.head _))) | exact List.Mem.tail _ (List.Mem.tail _ (List.Mem.tail _ (List.Mem.tail _ (List.Mem.head _)))) | exact List.Mem.tail _ (List.Mem.tail _ (List.Mem.tail _ (List.Mem.tail _ (List.Mem.tail _ (List.Mem.head _))))) | exact List.Mem.tail _ (List.Mem.tail _ (List.Mem.tail _ (List.Mem.tail _ (List.Mem.tail _ (List.Mem.tail _ (List.Mem.head _)))))) | exact List.Mem.tail _ (List.Mem.tail _ (List.Mem.tail _ (List.Mem.tail _ (List.Mem.tail _ (List.Mem.tail _ (List.Mem.tail _ (List.Mem.head _))))))) | exact List.Mem.tail _ (List.Mem.tail _ (List.Mem.tail _ (List.Mem.tail _ (List.Mem.tail _ (List.Mem.tail _ (List.Mem.tail _ (List.Mem.tail _ (List.Mem.head _)))))))) | exact List.Mem.tail _ (List.Mem.tail _ (List.Mem.tail _ (List.Mem.tail _ (List.Mem.tail _ (List.Mem.tail _ (List.Mem.tail _ (List.Mem.tail _ (List.Mem.tail _ (List.Mem.head _))))))))) | exact List.Mem.tail _ (List.Mem.tail _ (List.Mem.tail _ (List.Mem.tail _ (List.Mem.tail _ (List.Mem.tail _ (List.Mem.tail _ (List.Mem.tail _ (List.Mem.tail _ (List.Mem.tail _ (List.Mem.head _)))))))))) | exact List.Mem.tail _ (List.Mem.tail _ (List.Mem.tail _ (List.Mem.tail _ (List.Mem.tail _ (List.Mem.tail _ (List.Mem.tail _ (List.Mem.tail _ (List.Mem.tail _ (List.Mem.tail _ (List.Mem.tail _ (List.Mem.head _)))))))))))) rfl, by omega, _, rfl, by rw [htm]; omega, by rw [htm]; omega, ((keep[j % keep.length]).toNat : Int), fun w h => ?_, by omega, ?_⟩
  · rw [htm, show ((j % keep.length : Nat) : Int).toNat * 1 = j % keep.length by omega]
    exact (hk w (T.drop h)).2 a rfl _ _ (List.getElem?_eq_getElem hlt)
  · refine ⟨?_, (Ext.refl w6).drew⟩
    have hlt8 : (keep[j % keep.length]).toNat < 256 := (keep[j % keep.length]).toNat_lt
    rw [wrap64 _ (by omega) (by omega), Int.tmod_eq_emod_of_nonneg (by omega)]
    simp only [keepG, if_neg (show ¬ keep.length = 0 by omega), List.getD_eq_getElem?_getD, List.getElem?_eq_getElem hlt, Option.getD_some]
    congr 1
end Go.Proofs.Ytdppllkjibfjcaa
