import Derived.Test.YtdppllkjibfjcaaDr14
/-! drive: Pending. -/
namespace Go.Proofs.Ytdppllkjibfjcaa
open Go.Sh Go.Maps Go.RowKit
set_option linter.unusedVariables false
set_option maxHeartbeats 1000000
set_option maxRecDepth 20000
theorem entry_t {P : Program} {w : World} {r bm since clock : Nat} {seen : Array Nat} {es : Array MapEntry} {e : MapEntry} (hr : w.heap[r]? = some (.mapIter (some bm) since (seen.push e.born) clock)) (hb : w.heap[bm]? = some (.map es clock)) (he : e ∈ es.toList) (hn : (es.toList.map (·.born)).Nodup) :
    (Instr.entry (.pointer (some ⟨r, 0, none⟩))).run P w = .ok (.tuple #[e.key, e.val]) w := by
  have hf : es.find? (·.born == e.born) = some e := by rw [← Array.find?_toList]; exact find_born e es.toList hn he
  simp only [Instr.entry, getObj, Sem.run_bind, Sem.run, hr, hb, Result.andThen, Array.back?_push, bne_self_eq_false, Bool.false_eq_true, if_false, hf]
  rfl
def lenOf : Value → Nat
  | .slice _ n _ => n
  | _ => 0
def seenLen : List MapEntry → Array Nat → Nat
  | [], _ => 0
  | e :: es, seen => (if seen.contains e.born then lenOf e.val else 0) + seenLen es seen
theorem seenLen_other (seen : Array Nat) (b : Nat) : ∀ (es : List MapEntry), b ∉ es.map (·.born) → seenLen es (seen.push b) = seenLen es seen
  | [], _ => rfl
  | e :: es, h => by
    simp only [List.map_cons, List.mem_cons, not_or] at h
    simp only [seenLen, contains_push, seenLen_other seen b es h.2]
    have : (e.born == b) = false := by simpa using fun x => h.1 x.symm
    rw [this, Bool.or_false]
theorem seenLen_push (seen : Array Nat) (e : MapEntry) (hs : seen.contains e.born = false) : ∀ (es : List MapEntry), (es.map (·.born)).Nodup → e ∈ es → seenLen es (seen.push e.born) = seenLen es seen + lenOf e.val
  | x :: es, hn, he => by
    simp only [List.map_cons, List.nodup_cons] at hn
    rcases List.mem_cons.1 he with rfl | he
    · simp only [seenLen, contains_push, seenLen_other seen _ es hn.1, hs]
      simp; omega
    · have hne : (x.born == e.born) = false := by
        have : x.born ≠ e.born := fun h => hn.1 (h ▸ List.mem_map_of_mem (f := (·.born)) he)
        simpa using this
      simp only [seenLen, contains_push, seenLen_push seen e hs es hn.2 he, hne, Bool.or_false]
      omega
theorem seenLen_none : ∀ (es : List MapEntry), seenLen es #[] = 0
  | [] => rfl
  | e :: es => by simp [seenLen, seenLen_none es]
theorem seenLen_full (seen : Array Nat) : ∀ (es : List MapEntry), (∀ x ∈ es, seen.contains x.born = true) → seenLen es seen = (es.map fun e => lenOf e.val).sum
  | [], _ => rfl
  | e :: es, h => by
    have h1 := h e List.mem_cons_self
    simp only [seenLen, List.map_cons, List.sum_cons, seenLen_full seen es fun x hx => h x (List.mem_cons_of_mem _ hx), h1, if_true]
theorem seenLen_le (seen : Array Nat) : ∀ (es : List MapEntry), seenLen es seen ≤ (es.map fun e => lenOf e.val).sum
  | [] => Nat.le_refl _
  | e :: es => by
    have := seenLen_le seen es
    simp only [seenLen, List.map_cons, List.sum_cons]
    split <;> omega
def pendingG (ws : List WE) : Nat := (ws.map fun e => e.l.length).sum
theorem pending_ws (ws : List WE) : (((ws.map WE.ent).map ent).map fun e => lenOf e.val).sum = pendingG ws := by
  unfold pendingG
  congr 1
  rw [List.map_map, List.map_map]
  rfl
theorem sum_le (ws : List WE) (N : Nat) (h : ∀ e ∈ ws, e.l.length ≤ N) : pendingG ws ≤ ws.length * N := by
  induction ws with
  | nil => simp [pendingG]
  | cons e ws ih =>
    have h1 := ih fun x hx => h x (List.mem_cons_of_mem _ hx)
    have h2 := h e List.mem_cons_self
    unfold pendingG at h1 ⊢
    simp only [List.map_cons, List.sum_cons, List.length_cons, Nat.add_mul, Nat.one_mul]
    omega
theorem pending_spec (D : DL) (w : World) (h : Has w (drvL D)) (hD : DOk D) (hL : ∀ e ∈ D.ws, e.l.length ≤ 1000000) : Ret Try.prog 19 #[.pointer (some ⟨D.p, 0, none⟩)] w (.int .i64 (pendingG D.ws)) := by
  have hcall : Calls Try.prog 19 #[.pointer (some ⟨D.p, 0, none⟩)] w fun e w' => ∃ v, e = .returned v ∧ (v = .int .i64 (pendingG D.ws) ∧ ∃ Γ, T [] w w' Γ) := by
    refine drive_Drive_Pending_calls ?_
    unfold drive_Drive_Pending
    have hmb : w.heap[D.bm]? = some (.map ((D.ws.map WE.ent).map ent).toArray D.clk) := h.got (show mapP D.bm (D.ws.map WE.ent) D.clk ∈ _ from (by first | exact List.Mem.head _ | exact List.Mem.tail _ (List.Mem.head _) | exact List.Mem.tail _ (List.Mem.tail _ (List.Mem.head _)) | exact List.Mem.tail _ (List.Mem.tail _ (List.Mem.tail _ (List.Mem.head _))) | exact List.Mem.tail _ (List.Mem.tail _ (List.Mem.tail _ (List.Mem.tail _ (List.Mem.head _)))) | exact List.Mem.tail _ (List.Mem.tail _ (List.Mem.tail _ (List.Mem.tail _ (List.Mem.tail _ (List.Mem.head _))))) | exact List.Mem.tail _ (List.Mem.tail _ (List.Mem.tail _ (List.Mem.tail _ (List.Mem.tail _ (List.Mem.tail _ (List.Mem.head _)))))) | exact List.Mem.tail _ (List.Mem.tail _ (List.Mem.tail _ (List.Mem.tail _ (List.Mem.tail _ (List.Mem.tail _ (List.Mem.tail _ (List.Mem.head _))))))) | exact List.Mem.tail _ (List.Mem.tail _ (List.Mem.tail _ (List.Mem.tail _ (List.Mem.tail _ (List.Mem.tail _ (List.Mem.tail _ (List.Mem.tail _ (List.Mem.head _)))))))) | exact List.Mem.tail _ (List.Mem.tail _ (List.Mem.tail _ (List.Mem.tail _ (List.Mem.tail _ (List.Mem.tail _ (List.Mem.tail _ (List.Mem.tail _ (List.Mem.tail _ (List.Mem.head _))))))))) | exact List.Mem.tail _ (List.Mem.tail _ (List.Mem.tail _ (List.Mem.tail _ (List.Mem.tail _ (List.Mem.tail _ (List.Mem.tail _ (List.Mem.tail _ (List.Mem.tail _ (List.Mem.tail _ (List.Mem.head _)))))))))) | exact List.Mem.tail _ (List.Mem.tail _ (List.Mem.tail _ (List.Mem.tail _ (List.Mem.tail _ (List.Mem.tail _ (List.Mem.tail _ (List.Mem.tail _ (List.Mem.tail _ (List.Mem.tail _ (List.Mem.tail _ (List.Mem.head _)))))))))))))
    have hml := lt_of_heap hmb
    have htot : pendingG D.ws ≤ 4096 * 1000000 := Nat.le_trans (sum_le D.ws 1000000 hL) (Nat.mul_le_mul_right _ (ws_few hD))
    have hb : ∀ x ∈ ((D.ws.map WE.ent).map ent), x.born < D.clk := by
      intro x hx
      obtain ⟨y, hy, rfl⟩ := List.mem_map.1 hx
      obtain ⟨e, he, rfl⟩ := List.mem_map.1 hy
      exact hD.wb e he
    have hn : (((D.ws.map WE.ent).map ent).map (·.born)).Nodup := by
      have e : ((D.ws.map WE.ent).map ent).map (·.born) = D.ws.map (·.born) := by rw [List.map_map, List.map_map]; rfl
      rw [e]; exact hD.wd
    have hr := run_range_map (P := Try.prog) w 82 3 81 D.bm _ D.clk (by kernel_rfl) hmb
    have hT0 : T [] w (w.alloc (.mapIter (some D.bm) D.clk #[] D.clk)) [ob w.heap.size (.mapIter (some D.bm) D.clk #[] D.clk)] := (T.nil w).alloc _
    refine ⟨_, rfl, _, h.ldA (S.start w) (by first | exact List.Mem.head _ | exact List.Mem.tail _ (List.Mem.head _) | exact List.Mem.tail _ (List.Mem.tail _ (List.Mem.head _)) | exact List.Mem.tail _ (List.Mem.tail _ (List.Mem.tail _ (List.Mem.head _))) | exact List.Mem.tail _ (List.Mem.tail _ (List.Mem.tail _ (List.Mem.tail _ (List.Mem.head _)))) | exact List.Mem.tail _ (List.Mem.tail _ (List.Mem.tail _ (List.Mem.tail _ (List.Mem.tail _ (List.Mem.head _))))) | exact List.Mem.tail _ (List.Mem.tail _ (List.Mem.tail _ (List.Mem.tail _ (List.Mem.tail _ (List.Mem.tail _ (List.Mem.head _)))))) | exact List.Mem.tail _ (List.Mem.tail _ (List.Mem.tail _ (List.Mem.tail _ (List.Mem.tail _ (List.Mem.tail _ (List.Mem.tail _ (List.Mem.head _))))))) | exact List.Mem.tail _ (List.Mem.tail _ (List.Mem.tail _ (List.Mem.tail _ (List.Mem.tail _ (List.Mem.tail _ (List.Mem.tail _ (List.Mem.tail _ (List.Mem.head _)))))))) | exact List.Mem.tail _ (List.Mem.tail _ (List.Mem.tail _ (List.Mem.tail _ (List.Mem.tail _ (List.Mem.tail _ (List.Mem.tail _ (List.Mem.tail _ (List.Mem.tail _ (List.Mem.head _))))))))) | exact List.Mem.tail _ (List.Mem.tail _ (List.Mem.tail _ (List.Mem.tail _ (List.Mem.tail _ (List.Mem.tail _ (List.Mem.tail _ (List.Mem.tail _ (List.Mem.tail _ (List.Mem.tail _ (List.Mem.head _)))))))))) | exact List.Mem.tail _ (List.Mem.tail _ (List.Mem.tail _ (List.Mem.tail _ (List.Mem.tail _ (List.Mem.tail _ (List.Mem.tail _ (List.Mem.tail _ (List.Mem.tail _ (List.Mem.tail _ (List.Mem.tail _ (List.Mem.head _)))))))))))) rfl, _, _, hr, ?_⟩
    refine ⟨fun vs w' => ∃ (seen : Array Nat) (c0 : Nat), vs = [.int .i64 (seenLen ((D.ws.map WE.ent).map ent) seen)] ∧ D.clk ≤ c0 ∧ T [] w w' [ob w.heap.size (.mapIter (some D.bm) D.clk seen c0)],
      fun _ w' => (leftOf ((D.ws.map WE.ent).map ent).toArray (w'.iterSeen w.heap.size)).size, ⟨#[], D.clk, by rw [seenLen_none]; rfl, Nat.le_refl _, hT0⟩, ?_⟩
    rintro vs w2 ⟨seen, c0, rfl, hc0, hT⟩
    refine ⟨_, rfl, ?_⟩
    have hmb2 : w2.heap[D.bm]? = some (.map ((D.ws.map WE.ent).map ent).toArray D.clk) := hT.base hmb (by simp)
    have hit := hT.got (List.mem_singleton.2 rfl)
    -- the map and its iterator, as parts of a base of their own
    have hne : D.bm ≠ w.heap.size := by omega
    have hT2 : T [w.heap.size, D.bm] w2 w2 [ob w.heap.size (.mapIter (some D.bm) D.clk seen c0), ob D.bm (.map ((D.ws.map WE.ent).map ent).toArray D.clk)] := by
      refine ⟨.refl _ _, ?_, ?_, ?_⟩
      · simp [feet, ob, Ne.symm hne]
      · intro b hb
        have : b = w.heap.size ∨ b = D.bm := by simpa [feet, ob] using hb
        rcases this with rfl | rfl
        · exact ⟨lt_of_heap hit, .inl (by simp)⟩
        · exact ⟨lt_of_heap hmb2, .inl (by simp)⟩
      · intro a ha
        have : a = ob w.heap.size (.mapIter (some D.bm) D.clk seen c0) ∨ a = ob D.bm (.map ((D.ws.map WE.ent).map ent).toArray D.clk) := by simpa using ha
        rcases this with rfl | rfl
        · exact hit
        · exact hmb2
    rcases next_t (P := Try.prog) (ty := 0) hT2 (bm := D.bm) (r := w.heap.size) (since := D.clk) (c0 := c0) (clock := D.clk) (seen := seen) (es := ((D.ws.map WE.ent).map ent).toArray) (by first | exact List.Mem.head _ | exact List.Mem.tail _ (List.Mem.head _) | exact List.Mem.tail _ (List.Mem.tail _ (List.Mem.head _)) | exact List.Mem.tail _ (List.Mem.tail _ (List.Mem.tail _ (List.Mem.head _))) | exact List.Mem.tail _ (List.Mem.tail _ (List.Mem.tail _ (List.Mem.tail _ (List.Mem.head _)))) | exact List.Mem.tail _ (List.Mem.tail _ (List.Mem.tail _ (List.Mem.tail _ (List.Mem.tail _ (List.Mem.head _))))) | exact List.Mem.tail _ (List.Mem.tail _ (List.Mem.tail _ (List.Mem.tail _ (List.Mem.tail _ (List.Mem.tail _ (List.Mem.head _)))))) | exact List.Mem.tail _ (List.Mem.tail _ (List.Mem.tail _ (List.Mem.tail _ (List.Mem.tail _ (List.Mem.tail _ (List.Mem.tail _ (List.Mem.head _))))))) | exact List.Mem.tail _ (List.Mem.tail _ (List.Mem.tail _ (List.Mem.tail _ (List.Mem.tail _ (List.Mem.tail _ (List.Mem.tail _ (List.Mem.tail _ (List.Mem.head _)))))))) | exact List.Mem.tail _ (List.Mem.tail _ (List.Mem.tail _ (List.Mem.tail _ (List.Mem.tail _ (List.Mem.tail _ (List.Mem.tail _ (List.Mem.tail _ (List.Mem.tail _ (List.Mem.head _))))))))) | exact List.Mem.tail _ (List.Mem.tail _ (List.Mem.tail _ (List.Mem.tail _ (List.Mem.tail _ (List.Mem.tail _ (List.Mem.tail _ (List.Mem.tail _ (List.Mem.tail _ (List.Mem.tail _ (List.Mem.head _)))))))))) | exact List.Mem.tail _ (List.Mem.tail _ (List.Mem.tail _ (List.Mem.tail _ (List.Mem.tail _ (List.Mem.tail _ (List.Mem.tail _ (List.Mem.tail _ (List.Mem.tail _ (List.Mem.tail _ (List.Mem.tail _ (List.Mem.head _)))))))))))) (by first | exact List.Mem.head _ | exact List.Mem.tail _ (List.Mem.head _) | exact List.Mem.tail _ (List.Mem.tail _ (List.Mem.head _)) | exact List.Mem.tail _ (List.Mem.tail _ (List.Mem.tail _ (List.Mem.head _))) | exact List.Mem.tail _ (List.Mem.tail _ (List.Mem.tail _ (List.Mem.tail _ (List.Mem.head _)))) | exact List.Mem.tail _ (List.Mem.tail _ (List.Mem.tail _ (List.Mem.tail _ (List.Mem.tail _ (List.Mem.head _))))) | exact List.Mem.tail _ (List.Mem.tail _ (List.Mem.tail _ (List.Mem.tail _ (List.Mem.tail _ (List.Mem.tail _ (List.Mem.head _)))))) | exact List.Mem.tail _ (List.Mem.tail _ (List.Mem.tail _ (List.Mem.tail _ (List.Mem.tail _ (List.Mem.tail _ (List.Mem.tail _ (List.Mem.head _))))))) | exact List.Mem.tail _ (List.Mem.tail _ (List.Mem.tail _ (List.Mem.tail _ (List.Mem.tail _ (List.Mem.tail _ (List.Mem.tail _ (List.Mem.tail _ (List.Mem.head _)))))))) | exact List.Mem.tail _ (List.Mem.tail _ (List.Mem.tail _ (List.Mem.tail _ (List.Mem.tail _ (List.Mem.tail _ (List.Mem.tail _ (List.Mem.tail _ (List.Mem.tail _ (List.Mem.head _))))))))) | exact List.Mem.tail _ (List.Mem.tail _ (List.Mem.tail _ (List.Mem.tail _ (List.Mem.tail _ (List.Mem.tail _ (List.Mem.tail _ (List.Mem.tail _ (List.Mem.tail _ (List.Mem.tail _ (List.Mem.head _)))))))))) | exact List.Mem.tail _ (List.Mem.tail _ (List.Mem.tail _ (List.Mem.tail _ (List.Mem.tail _ (List.Mem.tail _ (List.Mem.tail _ (List.Mem.tail _ (List.Mem.tail _ (List.Mem.tail _ (List.Mem.tail _ (List.Mem.head _)))))))))))) (by simpa using hb) hc0 with ⟨h0, hrun⟩ | ⟨e, he, w3, hrun, hk⟩
    · refine .inl ⟨w2, hrun, ⟨fun hh => (by cases hh), fun _ => ⟨?_, _, hT⟩⟩⟩
      have hall := all_seen _ _ h0
      have := seenLen_full seen ((D.ws.map WE.ent).map ent) (by simpa using hall)
      rw [this, pending_ws]
    · obtain ⟨hmem, hns⟩ := mem_left he
      have hmem' : e ∈ (D.ws.map WE.ent).map ent := by simpa using hmem
      obtain ⟨y, hy, hye⟩ := List.mem_map.1 hmem'
      obtain ⟨x, hx, rfl⟩ := List.mem_map.1 hy
      have hT3 := hk _ .head
      have hpush := seenLen_push seen e hns _ hn hmem'
      have hlen : lenOf e.val = x.l.length := by rw [← hye]; rfl
      have hval : e.val = .slice (ptr x.g) x.l.length x.cap := by rw [← hye]; rfl
      have hent : (Instr.entry (.pointer (some ⟨w.heap.size, 0, none⟩))).run Try.prog w3 = .ok (.tuple #[e.key, e.val]) w3 := entry_t (hT3.got (by first | exact List.Mem.head _ | exact List.Mem.tail _ (List.Mem.head _) | exact List.Mem.tail _ (List.Mem.tail _ (List.Mem.head _)) | exact List.Mem.tail _ (List.Mem.tail _ (List.Mem.tail _ (List.Mem.head _))) | exact List.Mem.tail _ (List.Mem.tail _ (List.Mem.tail _ (List.Mem.tail _ (List.Mem.head _)))) | exact List.Mem.tail _ (List.Mem.tail _ (List.Mem.tail _ (List.Mem.tail _ (List.Mem.tail _ (List.Mem.head _))))) | exact List.Mem.tail _ (List.Mem.tail _ (List.Mem.tail _ (List.Mem.tail _ (List.Mem.tail _ (List.Mem.tail _ (List.Mem.head _)))))) | exact List.Mem.tail _ (List.Mem.tail _ (List.Mem.tail _ (List.Mem.tail _ (List.Mem.tail _ (List.Mem.tail _ (List.Mem.tail _ (List.Mem.head _))))))) | exact List.Mem.tail _ (List.Mem.tail _ (List.Mem.tail _ (List.Mem.tail _ (List.Mem.tail _ (List.Mem.tail _ (List.Mem.tail _ (List.Mem.tail _ (List.Mem.head _)))))))) | exact List.Mem.tail _ (List.Mem.tail _ (List.Mem.tail _ (List.Mem.tail _ (List.Mem.tail _ (List.Mem.tail _ (List.Mem.tail _ (List.Mem.tail _ (List.Mem.tail _ (List.Mem.head _))))))))) | exact List.Mem.tail _ (List.Mem.tail _ (List.Mem.tail _ (List.Mem.tail _ (List.Mem.tail _ (List.Mem.tail _ (List.Mem.tail _ (List.Mem.tail _ (List.Mem.tail _ (List.Mem.tail _ (List.Mem.head _)))))))))) | exact List.Mem.tail _ (List.Mem.tail _ (List.Mem.tail _ (List.Mem.tail _ (List.Mem.tail _ (List.Mem.tail _ (List.Mem.tail _ (List.Mem.tail _ (List.Mem.tail _ (List.Mem.tail _ (List.Mem.tail _ (List.Mem.head _))))))))))))) (hT3.got (by first | exact List.Mem.head _ | exact List.Mem.tail _ (List.Mem.head _) | exact List.Mem.tail _ (List.Mem.tail _ (List.Mem.head _)) | exact List.Mem.tail _ (List.Mem.tail _ (List.Mem.tail _ (List.Mem.head _))) | exact List.Mem.tail _ (List.Mem.tail _ (List.Mem.tail _ (List.Mem.tail _ (List.Mem.head _)))) | exact List.Mem.tail _ (List.Mem.tail _ (List.Mem.tail _ (List.Mem.tail _ (List.Mem.tail _ (List.Mem.head _))))) | exact List.Mem.tail _ (List.Mem.tail _ (List.Mem.tail _ (List.Mem.tail _ (List.Mem.tail _ (List.Mem.tail _ (List.Mem.head _)))))) | exact List.Mem.tail _ (List.Mem.tail _ (List.Mem.tail _ (List.Mem.tail _ (List.Mem.tail _ (List.Mem.tail _ (List.Mem.tail _ (List.Mem.head _))))))) | exact List.Mem.tail _ (List.Mem.tail _ (List.Mem.tail _ (List.Mem.tail _ (List.Mem.tail _ (List.Mem.tail _ (List.Mem.tail _ (List.Mem.tail _ (List.Mem.head _)))))))) | exact List.Mem.tail _ (List.Mem.tail _ (List.Mem.tail _ (List.Mem.tail _ (List.Mem.tail _ (List.Mem.tail _ (List.Mem.tail _ (List.Mem.tail _ (List.Mem.tail _ (List.Mem.head _))))))))) | exact List.Mem.tail _ (List.Mem.tail _ (List.Mem.tail _ (List.Mem.tail _ (List.Mem.tail _ (List.Mem.tail _ (List.Mem.tail _ (List.Mem.tail _ (List.Mem.tail _ (List.Mem.tail _ (List.Mem.head _)))))))))) | exact List.Mem.tail _ (List.Mem.tail _ (List.Mem.tail _ (List.Mem.tail _ (List.Mem.tail _ (List.Mem.tail _ (List.Mem.tail _ (List.Mem.tail _ (List.Mem.tail _ (List.Mem.tail _ (List.Mem.tail _ (List.Mem.head _))))))))))))) hmem (by simpa using hn)
      have hle := seenLen_le (seen.push e.born) ((D.ws.map WE.ent).map ent)
      rw [pending_ws, hpush, hlen] at hle
      refine .inr ⟨_, _, w3, hrun, ⟨fun _ => ⟨_, _, w3, hent, _, _, _, by rw [hval], ⟨seen.push e.born, D.clk, ?_, Nat.le_refl _, ?_⟩, ?_⟩, fun hh => (by cases hh)⟩⟩
      · rw [hpush, hlen, wrap64 _ (by omega) (by omega)]
        simp
      · have h1 : T [] w w2 ([ob w.heap.size (.mapIter (some D.bm) D.clk seen c0)] ++ []) := hT
        have hc : T (feet [ob w.heap.size (.mapIter (some D.bm) D.clk seen c0)]) w2 w3 [ob w.heap.size (.mapIter (some D.bm) D.clk (seen.push e.born) D.clk)] := by
          have hb3 := hT3.got (b := D.bm) (by first | exact List.Mem.head _ | exact List.Mem.tail _ (List.Mem.head _) | exact List.Mem.tail _ (List.Mem.tail _ (List.Mem.head _)) | exact List.Mem.tail _ (List.Mem.tail _ (List.Mem.tail _ (List.Mem.head _))) | exact List.Mem.tail _ (List.Mem.tail _ (List.Mem.tail _ (List.Mem.tail _ (List.Mem.head _)))) | exact List.Mem.tail _ (List.Mem.tail _ (List.Mem.tail _ (List.Mem.tail _ (List.Mem.tail _ (List.Mem.head _))))) | exact List.Mem.tail _ (List.Mem.tail _ (List.Mem.tail _ (List.Mem.tail _ (List.Mem.tail _ (List.Mem.tail _ (List.Mem.head _)))))) | exact List.Mem.tail _ (List.Mem.tail _ (List.Mem.tail _ (List.Mem.tail _ (List.Mem.tail _ (List.Mem.tail _ (List.Mem.tail _ (List.Mem.head _))))))) | exact List.Mem.tail _ (List.Mem.tail _ (List.Mem.tail _ (List.Mem.tail _ (List.Mem.tail _ (List.Mem.tail _ (List.Mem.tail _ (List.Mem.tail _ (List.Mem.head _)))))))) | exact List.Mem.tail _ (List.Mem.tail _ (List.Mem.tail _ (List.Mem.tail _ (List.Mem.tail _ (List.Mem.tail _ (List.Mem.tail _ (List.Mem.tail _ (List.Mem.tail _ (List.Mem.head _))))))))) | exact List.Mem.tail _ (List.Mem.tail _ (List.Mem.tail _ (List.Mem.tail _ (List.Mem.tail _ (List.Mem.tail _ (List.Mem.tail _ (List.Mem.tail _ (List.Mem.tail _ (List.Mem.tail _ (List.Mem.head _)))))))))) | exact List.Mem.tail _ (List.Mem.tail _ (List.Mem.tail _ (List.Mem.tail _ (List.Mem.tail _ (List.Mem.tail _ (List.Mem.tail _ (List.Mem.tail _ (List.Mem.tail _ (List.Mem.tail _ (List.Mem.tail _ (List.Mem.head _))))))))))))
          have hr3 := hT3.got (b := w.heap.size) (by first | exact List.Mem.head _ | exact List.Mem.tail _ (List.Mem.head _) | exact List.Mem.tail _ (List.Mem.tail _ (List.Mem.head _)) | exact List.Mem.tail _ (List.Mem.tail _ (List.Mem.tail _ (List.Mem.head _))) | exact List.Mem.tail _ (List.Mem.tail _ (List.Mem.tail _ (List.Mem.tail _ (List.Mem.head _)))) | exact List.Mem.tail _ (List.Mem.tail _ (List.Mem.tail _ (List.Mem.tail _ (List.Mem.tail _ (List.Mem.head _))))) | exact List.Mem.tail _ (List.Mem.tail _ (List.Mem.tail _ (List.Mem.tail _ (List.Mem.tail _ (List.Mem.tail _ (List.Mem.head _)))))) | exact List.Mem.tail _ (List.Mem.tail _ (List.Mem.tail _ (List.Mem.tail _ (List.Mem.tail _ (List.Mem.tail _ (List.Mem.tail _ (List.Mem.head _))))))) | exact List.Mem.tail _ (List.Mem.tail _ (List.Mem.tail _ (List.Mem.tail _ (List.Mem.tail _ (List.Mem.tail _ (List.Mem.tail _ (List.Mem.tail _ (List.Mem.head _)))))))) | exact List.Mem.tail _ (List.Mem.tail _ (List.Mem.tail _ (List.Mem.tail _ (List.Mem.tail _ (List.Mem.tail _ (List.Mem.tail _ (List.Mem.tail _ (List.Mem.tail _ (List.Mem.head _))))))))) | exact List.Mem.tail _ (List.Mem.tail _ (List.Mem.tail _ (List.Mem.tail _ (List.Mem.tail _ (List.Mem.tail _ (List.Mem.tail _ (List.Mem.tail _ (List.Mem.tail _ (List.Mem.tail _ (List.Mem.head _)))))))))) | exact List.Mem.tail _ (List.Mem.tail _ (List.Mem.tail _ (List.Mem.tail _ (List.Mem.tail _ (List.Mem.tail _ (List.Mem.tail _ (List.Mem.tail _ (List.Mem.tail _ (List.Mem.tail _ (List.Mem.tail _ (List.Mem.head _))))))))))))
          refine ⟨⟨hT3.chg.os, hT3.chg.output, hT3.chg.size, fun b hb hnb => ?_⟩, by simp [feet, ob], fun b hb => ?_, fun a ha => ?_⟩
          · by_cases hbb : b = D.bm
            · subst hbb; rw [hb3, hmb2]
            · exact hT3.chg.heap b hb (by simp [feet, ob] at hnb ⊢; exact ⟨hnb, hbb⟩)
          · obtain rfl : b = w.heap.size := by simpa [feet, ob] using hb
            exact ⟨lt_of_heap hr3, .inl (by simp [feet, ob])⟩
          · obtain rfl : a = ob w.heap.size (.mapIter (some D.bm) D.clk (seen.push e.born) D.clk) := by simpa using ha
            exact hr3
        exact T.call h1 hc
      · have e1 : w2.iterSeen w.heap.size = seen := by simp only [World.iterSeen, hit]
        have e2 : w3.iterSeen w.heap.size = seen.push e.born := by simp only [World.iterSeen, hT3.got (b := w.heap.size) (by first | exact List.Mem.head _ | exact List.Mem.tail _ (List.Mem.head _) | exact List.Mem.tail _ (List.Mem.tail _ (List.Mem.head _)) | exact List.Mem.tail _ (List.Mem.tail _ (List.Mem.tail _ (List.Mem.head _))) | exact List.Mem.tail _ (List.Mem.tail _ (List.Mem.tail _ (List.Mem.tail _ (List.Mem.head _)))) | exact List.Mem.tail _ (List.Mem.tail _ (List.Mem.tail _ (List.Mem.tail _ (List.Mem.tail _ (List.Mem.head _))))) | exact List.Mem.tail _ (List.Mem.tail _ (List.Mem.tail _ (List.Mem.tail _ (List.Mem.tail _ (List.Mem.tail _ (List.Mem.head _)))))) | exact List.Mem.tail _ (List.Mem.tail _ (List.Mem.tail _ (List.Mem.tail _ (List.Mem.tail _ (List.Mem.tail _ (List.Mem.tail _ (List.Mem.head _))))))) | exact List.Mem.tail _ (List.Mem.tail _ (List.Mem.tail _ (List.Mem.tail _ (List.Mem.tail _ (List.Mem.tail _ (List.Mem.tail _ (List.Mem.tail _ (List.Mem.head _)))))))) | exact List.Mem.tail _ (List.Mem.tail _ (List.Mem.tail _ (List.Mem.tail _ (List.Mem.tail _ (List.Mem.tail _ (List.Mem.tail _ (List.Mem.tail _ (List.Mem.tail _ (List.Mem.head _))))))))) | exact List.Mem.tail _ (List.Mem.tail _ (List.Mem.tail _ (List.Mem.tail _ (List.Mem.tail _ (List.Mem.tail _ (List.Mem.tail _ (List.Mem.tail _ (List.Mem.tail _ (List.Mem.tail _ (List.Mem.head _)))))))))) | exact List.Mem.tail _ (List.Mem.tail _ (List.Mem.tail _ (List.Mem.tail _ (List.Mem.tail _ (List.Mem.tail _ (List.Mem.tail _ (List.Mem.tail _ (List.Mem.tail _ (List.Mem.tail _ (List.Mem.tail _ (List.Mem.head _))))))))))))]
        show (leftOf _ (w3.iterSeen w.heap.size)).size < (leftOf _ (w2.iterSeen w.heap.size)).size
        rw [e1, e2]
        exact left_shrinks _ _ _ he
  exact hcall.mono fun e w' ⟨v, he, hv, Γ, hT⟩ => ⟨hv ▸ he, hT.chg.ext⟩
end Go.Proofs.Ytdppllkjibfjcaa
