import Derived.Test.YtdppllkjibfjcaaDr12
/-! drive: settle. -/
namespace Go.Proofs.Ytdppllkjibfjcaa
open Go.Sh Go.Maps
set_option linter.unusedVariables false
set_option maxHeartbeats 1000000
set_option maxRecDepth 20000
abbrev keysW (ws : List WE) : List Int := (ws.map (·.k)).mergeSort leI
/-- the safe sectors behind so many keys -/
def settleN (g : Nat → Nat → Nat) (ws : List WE) (safe : List ByteArray) : Nat → List ByteArray
  | 0 => safe
  | j + 1 => match (keysW ws)[j]? with
    | none => settleN g ws safe j
    | some i => if 0 < g j (pendW ws i).length then (settleN g ws safe j).set i.toNat ((pendW ws i).getD (g j (pendW ws i).length - 1) (ByteArray.mk #[])) else settleN g ws safe j
def settled (g : Nat → Nat → Nat) (D : DL) : DL := { D with safe := settleN g D.ws D.safe D.ws.length, ws := [] }
theorem settleN_len (g : Nat → Nat → Nat) (ws : List WE) (safe : List ByteArray) (j : Nat) : (settleN g ws safe j).length = safe.length := by
  induction j with
  | zero => rfl
  | succ j ih =>
    unfold settleN
    split
    · exact ih
    · split
      · rw [List.length_set, ih]
      · exact ih
theorem keysW_len (ws : List WE) : (keysW ws).length = ws.length := by simp [keysW]
theorem keysW_mem {ws : List WE} {i : Int} : i ∈ keysW ws ↔ ∃ e ∈ ws, e.k = i := by simp [keysW, List.mem_mergeSort]
theorem find_of_mem {ws : List WE} (hn : (ws.map (·.k)).Nodup) {e : WE} (he : e ∈ ws) : ws.find? (fun x => x.k == e.k) = some e := by
  induction ws with
  | nil => cases he
  | cons x ws ih =>
    simp only [List.map_cons, List.nodup_cons] at hn
    rw [List.find?_cons]
    rcases List.mem_cons.1 he with rfl | he
    · simp
    · have : (x.k == e.k) = false := by
        have : x.k ≠ e.k := fun h => hn.1 (h ▸ List.mem_map_of_mem he)
        simpa using this
      rw [this]
      exact ih hn.2 he
theorem settleN_64 (g : Nat → Nat → Nat) (ws : List WE) (safe : List ByteArray) (hs : ∀ s ∈ safe, s.size = 64) (hw : ∀ e ∈ ws, ∀ s ∈ e.l, s.size = 64) (hg : ∀ j m, g j m ≤ m) (j : Nat) : ∀ s ∈ settleN g ws safe j, s.size = 64 := by
  induction j with
  | zero => exact hs
  | succ j ih =>
    unfold settleN
    split
    · exact ih
    · rename_i i hi
      split
      · rename_i hp
        intro s hs
        rcases List.mem_or_eq_of_mem_set hs with h | rfl
        · exact ih s h
        · have hlt : g j (pendW ws i).length - 1 < (pendW ws i).length := by have := hg j (pendW ws i).length; omega
          rw [List.getD_eq_getElem?_getD, List.getElem?_eq_getElem hlt]
          simp only [Option.getD_some]
          have hm : (pendW ws i)[g j (pendW ws i).length - 1] ∈ pendW ws i := List.getElem_mem hlt
          generalize (pendW ws i)[g j (pendW ws i).length - 1] = x at hm
          unfold pendW at hm
          split at hm
          · rename_i e he
            exact hw e (List.mem_of_find?_eq_some he) x hm
          · cases hm
      · exact ih
theorem T.row_cells {F : List Nat} {w0 w : World} {Γ : List A} (h : T F w0 w Γ) {e : TypeId} {b n cap i : Nat} {l : List ByteArray} {s : ByteArray} (hm : rowP e 64 (some b) n cap (flat l) ∈ Γ) (h64 : ∀ s ∈ l, s.size = 64) (hs : l[i]? = some s) :
    bigAt w (Addr.add ⟨b, 0, none⟩ (i * 64)) (vals s).toArray := by
  intro j hj
  have h64s : s.size = 64 := h64 s (List.mem_of_getElem? hs)
  have hj' : j < 64 := by rw [List.size_toArray, vals_len, h64s] at hj; exact hj
  rw [addr_add, addr_add, Nat.zero_add, List.getElem?_toArray, vals_get (by omega)]
  refine rowP.cell (h.holds _ hm) ?_
  rw [flat_get h64 i j s hs hj', vals_get (by omega)]
theorem lookT {D : DL} {w : World} (hm : w.heap[D.bm]? = some (.map ((D.ws.map WE.ent).map ent).toArray D.clk)) (i : Int) :
    (Instr.lookup 82 (.map (some D.bm)) (.int .i64 i) false).run Try.prog w = .ok (match wfind D i with | some e => .slice (ptr e.g) e.l.length e.cap | none => .slice none 0 0) w := by
  have h1 := lookup_ints (P := Try.prog) (t := 82) (kt := 3) (e := 81) (z := .slice none 0 0) (w := w) (b := D.bm) (l := D.ws.map WE.ent) (clock := D.clk) (by kernel_rfl) (by kernel_rfl) (by kernel_rfl) hm i
  rw [h1, getK_ws]
  unfold wfind
  cases D.ws.find? fun e => e.k == i <;> rfl
theorem settle_spec (D : DL) (fv : Value) (g : Nat → Nat → Nat) {F : List Nat} {w0 w : World} {X : List A} (hT : T F w0 w (X ++ drvL D)) (hD : DOk D) (hg : ∀ j m, g j m ≤ m) (hL : ∀ e ∈ D.ws, e.l.length ≤ 1000000) (hn : D.ws.length ≤ 4096)
    (hmany : ∀ (j m : Nat) (w1 : World), T F w0 w1 X → j < 4096 → m ≤ 1000000 → CallF Try.prog fv [.int .i64 j, .int .i64 m] w1 fun e w' => e = .returned (.int .i64 (g j m)) ∧ Ext w1 w') :
    Calls Try.prog 47 #[.pointer (some ⟨D.p, 0, none⟩), fv] w fun e w' => ∃ v, e = .returned v ∧ v = .tuple #[] ∧ T F w0 w' (X ++ drvL (settled g D)) := by
  refine drive_Drive_settle_calls ?_
  unfold drive_Drive_settle
  have hT1 : T F w0 w (drvL D ++ X) := hT.swap List.perm_append_comm
  have hks : (D.ws.map WE.ent).map (·.1) = D.ws.map (·.k) := by rw [List.map_map]; rfl
  have hbs : (D.ws.map WE.ent).map (·.2.2) = D.ws.map (·.born) := by rw [List.map_map]; rfl
  refine ⟨_, rfl, _, hT1.ldA (by first | exact List.Mem.head _ | exact List.Mem.tail _ (List.Mem.head _) | exact List.Mem.tail _ (List.Mem.tail _ (List.Mem.head _)) | exact List.Mem.tail _ (List.Mem.tail _ (List.Mem.tail _ (List.Mem.head _))) | exact List.Mem.tail _ (List.Mem.tail _ (List.Mem.tail _ (List.Mem.tail _ (List.Mem.head _)))) | exact List.Mem.tail _ (List.Mem.tail _ (List.Mem.tail _ (List.Mem.tail _ (List.Mem.tail _ (List.Mem.head _))))) | exact List.Mem.tail _ (List.Mem.tail _ (List.Mem.tail _ (List.Mem.tail _ (List.Mem.tail _ (List.Mem.tail _ (List.Mem.head _)))))) | exact List.Mem.tail _ (List.Mem.tail _ (List.Mem.tail _ (List.Mem.tail _ (List.Mem.tail _ (List.Mem.tail _ (List.Mem.tail _ (List.Mem.head _))))))) | exact List.Mem.tail _ (List.Mem.tail _ (List.Mem.tail _ (List.Mem.tail _ (List.Mem.tail _ (List.Mem.tail _ (List.Mem.tail _ (List.Mem.tail _ (List.Mem.head _)))))))) | exact List.Mem.tail _ (List.Mem.tail _ (List.Mem.tail _ (List.Mem.tail _ (List.Mem.tail _ (List.Mem.tail _ (List.Mem.tail _ (List.Mem.tail _ (List.Mem.tail _ (List.Mem.head _))))))))) | exact List.Mem.tail _ (List.Mem.tail _ (List.Mem.tail _ (List.Mem.tail _ (List.Mem.tail _ (List.Mem.tail _ (List.Mem.tail _ (List.Mem.tail _ (List.Mem.tail _ (List.Mem.tail _ (List.Mem.head _)))))))))) | exact List.Mem.tail _ (List.Mem.tail _ (List.Mem.tail _ (List.Mem.tail _ (List.Mem.tail _ (List.Mem.tail _ (List.Mem.tail _ (List.Mem.tail _ (List.Mem.tail _ (List.Mem.tail _ (List.Mem.tail _ (List.Mem.head _)))))))))))) rfl, keys_spec (l := D.ws.map WE.ent) (bm := D.bm) (clock := D.clk) hT1 (.tail _ (.tail _ (.head _))) (n := D.ws.length) (by simp) (by simp; omega) (fun x hx => ?_) (by rw [hbs]; exact hD.wd) (by rw [hks]; exact hD.wn) (fun x hx => ?_) fun gk cap w2 hT2 => ?_⟩
  · obtain ⟨e, he, rfl⟩ := List.mem_map.1 hx
    exact hD.wb e he
  · obtain ⟨e, he, rfl⟩ := List.mem_map.1 hx
    have := (hD.wk e he)
    have h2 := hD.n1
    simp [Lit.wf, WE.ent, IntKind.min, IntKind.max, IntKind.bits, IntKind.signed]
    omega
  rw [hks] at hT2
  refine ⟨_, _, _, rfl, ?_⟩
  refine ⟨fun vs w' => ∃ n : Nat, vs = [.int .i64 n] ∧ n ≤ D.ws.length ∧ T F w0 w' (rowP 3 1 gk D.ws.length cap ((keysW D.ws).map (.int .i64)) :: (drvL { D with safe := settleN g D.ws D.safe n } ++ X)), fun vs _ => match vs with | [.int _ n] => (D.ws.length - n).toNat | _ => 0, ⟨0, rfl, by omega, hT2⟩, ?_⟩
  rintro vs w3 ⟨n, rfl, hnl, hT3⟩
  have key : drvL { D with safe := settleN g D.ws D.safe n } = [blk D.p #[.slice (some ⟨D.bs, 0, none⟩) D.safe.length D.safe.length, .map (some D.bm), .map (some D.bp), .bool D.dead, .int .i64 D.left, .bool D.cut] 85,
    rowP 88 64 (some D.bs) D.safe.length D.safe.length (flat (settleN g D.ws D.safe n)), mapP D.bm (D.ws.map WE.ent) D.clk, mapP D.bp D.sp D.clk2] ++ D.ws.map WE.row := by simp only [drvL, settleN_len]
  rw [key] at hT3
  have h64n := settleN_64 g D.ws D.safe hD.s64 hD.w64 hg n
  refine ⟨_, rfl, dec_t fun hlt => ?_, dec_f fun hge => ?_⟩
  · have hlt : n < D.ws.length := by omega
    have hkl : n < (keysW D.ws).length := by rw [keysW_len]; exact hlt
    obtain ⟨e, hem, hek⟩ := keysW_mem.1 (List.getElem_mem hkl)
    have hwf := hD.wk e hem
    have hf : wfind D (keysW D.ws)[n] = some e := by unfold wfind; rw [← hek]; exact find_of_mem hD.wn hem
    have hpend : pendW D.ws (keysW D.ws)[n] = e.l := by unfold pendW; unfold wfind at hf; rw [hf]
    have hstep : settleN g D.ws D.safe (n + 1) = if 0 < g n e.l.length then (settleN g D.ws D.safe n).set e.k.toNat (e.l.getD (g n e.l.length - 1) (ByteArray.mk #[])) else settleN g D.ws D.safe n := by
      conv => lhs; unfold settleN
      rw [List.getElem?_eq_getElem hkl]
      simp only [hpend, hek]
    obtain ⟨b, rfl⟩ := rowP.pos (hT3.says List.mem_cons_self) (by omega)
    refine ⟨_, rfl, by omega, by omega, (keysW D.ws)[n], ?_, ?_⟩
    · rw [addr_add, Nat.zero_add]
      refine rowP.cell (hT3.says List.mem_cons_self) ?_
      simp
    refine ⟨_, rfl, _, hT3.ldA (by first | exact List.Mem.head _ | exact List.Mem.tail _ (List.Mem.head _) | exact List.Mem.tail _ (List.Mem.tail _ (List.Mem.head _)) | exact List.Mem.tail _ (List.Mem.tail _ (List.Mem.tail _ (List.Mem.head _))) | exact List.Mem.tail _ (List.Mem.tail _ (List.Mem.tail _ (List.Mem.tail _ (List.Mem.head _)))) | exact List.Mem.tail _ (List.Mem.tail _ (List.Mem.tail _ (List.Mem.tail _ (List.Mem.tail _ (List.Mem.head _))))) | exact List.Mem.tail _ (List.Mem.tail _ (List.Mem.tail _ (List.Mem.tail _ (List.Mem.tail _ (List.Mem.tail _ (List.Mem.head _)))))) | exact List.Mem.tail _ (List.Mem.tail _ (List.Mem.tail _ (List.Mem.tail _ (List.Mem.tail _ (List.Mem.tail _ (List.Mem.tail _ (List.Mem.head _))))))) | exact List.Mem.tail _ (List.Mem.tail _ (List.Mem.tail _ (List.Mem.tail _ (List.Mem.tail _ (List.Mem.tail _ (List.Mem.tail _ (List.Mem.tail _ (List.Mem.head _)))))))) | exact List.Mem.tail _ (List.Mem.tail _ (List.Mem.tail _ (List.Mem.tail _ (List.Mem.tail _ (List.Mem.tail _ (List.Mem.tail _ (List.Mem.tail _ (List.Mem.tail _ (List.Mem.head _))))))))) | exact List.Mem.tail _ (List.Mem.tail _ (List.Mem.tail _ (List.Mem.tail _ (List.Mem.tail _ (List.Mem.tail _ (List.Mem.tail _ (List.Mem.tail _ (List.Mem.tail _ (List.Mem.tail _ (List.Mem.head _)))))))))) | exact List.Mem.tail _ (List.Mem.tail _ (List.Mem.tail _ (List.Mem.tail _ (List.Mem.tail _ (List.Mem.tail _ (List.Mem.tail _ (List.Mem.tail _ (List.Mem.tail _ (List.Mem.tail _ (List.Mem.tail _ (List.Mem.head _)))))))))))) rfl, ?_⟩
    have hlk := lookT (D := D) (w := w3) (hT3.got (show mapP D.bm (D.ws.map WE.ent) D.clk ∈ _ from (by first | exact List.Mem.head _ | exact List.Mem.tail _ (List.Mem.head _) | exact List.Mem.tail _ (List.Mem.tail _ (List.Mem.head _)) | exact List.Mem.tail _ (List.Mem.tail _ (List.Mem.tail _ (List.Mem.head _))) | exact List.Mem.tail _ (List.Mem.tail _ (List.Mem.tail _ (List.Mem.tail _ (List.Mem.head _)))) | exact List.Mem.tail _ (List.Mem.tail _ (List.Mem.tail _ (List.Mem.tail _ (List.Mem.tail _ (List.Mem.head _))))) | exact List.Mem.tail _ (List.Mem.tail _ (List.Mem.tail _ (List.Mem.tail _ (List.Mem.tail _ (List.Mem.tail _ (List.Mem.head _)))))) | exact List.Mem.tail _ (List.Mem.tail _ (List.Mem.tail _ (List.Mem.tail _ (List.Mem.tail _ (List.Mem.tail _ (List.Mem.tail _ (List.Mem.head _))))))) | exact List.Mem.tail _ (List.Mem.tail _ (List.Mem.tail _ (List.Mem.tail _ (List.Mem.tail _ (List.Mem.tail _ (List.Mem.tail _ (List.Mem.tail _ (List.Mem.head _)))))))) | exact List.Mem.tail _ (List.Mem.tail _ (List.Mem.tail _ (List.Mem.tail _ (List.Mem.tail _ (List.Mem.tail _ (List.Mem.tail _ (List.Mem.tail _ (List.Mem.tail _ (List.Mem.head _))))))))) | exact List.Mem.tail _ (List.Mem.tail _ (List.Mem.tail _ (List.Mem.tail _ (List.Mem.tail _ (List.Mem.tail _ (List.Mem.tail _ (List.Mem.tail _ (List.Mem.tail _ (List.Mem.tail _ (List.Mem.head _)))))))))) | exact List.Mem.tail _ (List.Mem.tail _ (List.Mem.tail _ (List.Mem.tail _ (List.Mem.tail _ (List.Mem.tail _ (List.Mem.tail _ (List.Mem.tail _ (List.Mem.tail _ (List.Mem.tail _ (List.Mem.tail _ (List.Mem.head _)))))))))))))) (keysW D.ws)[n]
    rw [hf] at hlk
    refine ⟨_, _, _, _, hlk, ?_⟩
    have hX : T F w0 w3 X := T.dropAll (T.drop hT3)
    refine CallF.mono (hmany n e.l.length w3 hX (by omega) (hL e hem)) fun e2 w5 ⟨he2, hx⟩ => ⟨_, he2, ?_⟩
    have hT5 := hT3.quiet hx
    have wr : IntKind.i64.wrap ((n : Int) + 1) = ((n + 1 : Nat) : Int) := by rw [wrap64 _ (by omega) (by omega)]; omega
    have meas : (((D.ws.length : Int) - ((n + 1 : Nat) : Int)).toNat < ((D.ws.length : Int) - (n : Int)).toNat) := by omega
    refine ⟨dec_t fun hp => ?_, dec_f fun hp => ?_⟩
    · have hp' : 0 < g n e.l.length := by omega
      have hgl := hg n e.l.length
      have hll := hL e hem
      have w1' : IntKind.i64.wrap ((g n e.l.length : Int) - 1) = ((g n e.l.length - 1 : Nat) : Int) := by rw [wrap64 _ (by omega) (by omega)]; omega
      have hlt1 : g n e.l.length - 1 < e.l.length := by omega
      obtain ⟨be, hbe⟩ := rowP.pos (hT5.says (x := e.row) (List.mem_cons_of_mem _ (List.mem_append_left _ (List.mem_append_right _ (List.mem_map_of_mem hem))))) (by omega)
      have hrow : rowP 88 64 (some be) e.l.length e.cap (flat e.l) ∈ rowP 3 1 (some b) D.ws.length cap ((keysW D.ws).map (.int .i64)) :: ([blk D.p #[.slice (some ⟨D.bs, 0, none⟩) D.safe.length D.safe.length, .map (some D.bm), .map (some D.bp), .bool D.dead, .int .i64 D.left, .bool D.cut] 85,
          rowP 88 64 (some D.bs) D.safe.length D.safe.length (flat (settleN g D.ws D.safe n)), mapP D.bm (D.ws.map WE.ent) D.clk, mapP D.bp D.sp D.clk2] ++ D.ws.map WE.row ++ X) := by
        have h1 : e.row ∈ D.ws.map WE.row := List.mem_map_of_mem hem
        unfold WE.row at h1
        rw [hbe] at h1
        exact List.mem_cons_of_mem _ (List.mem_append_left _ (List.mem_append_right _ h1))
      have hgs : e.l[g n e.l.length - 1]? = some e.l[g n e.l.length - 1] := List.getElem?_eq_getElem hlt1
      have hs64 : (e.l[g n e.l.length - 1]).size = 64 := hD.w64 e hem _ (List.getElem_mem hlt1)
      have hz : (vals e.l[g n e.l.length - 1]).toArray.size = 64 := by rw [List.size_toArray, vals_len, hs64]
      rw [w1', hbe]
      have hil : (keysW D.ws)[n].toNat < D.safe.length := by rw [← hek]; omega
      obtain ⟨w6, hr, hT6⟩ := storeRow_t (P := Try.prog) (t0 := 88) (i := Try.t88) (o := (keysW D.ws)[n].toNat * 64) (cs := (vals e.l[g n e.l.length - 1]).toArray) (b := D.bs) (e := 88) (size := 64) (n := D.safe.length) (cap := D.safe.length) (xs := flat (settleN g D.ws D.safe n)) hT5.drew (.tail (.tail .head)) (by kernel_rfl) (by rw [hz]; kernel_rfl) (by
        intro v hv
        obtain ⟨b, _, rfl⟩ := List.mem_map.1 (show v ∈ vals _ from hv)
        rfl) (by rw [hz, flat_len h64n, settleN_len]; omega)
      rw [hz, flat_set h64n (by rw [settleN_len]; exact hil) hs64] at hT6
      refine ⟨fun w => T F w0 w _, hT5.drew, _, rfl, _, _, _, fun w h => h.ld (by first | exact List.Mem.head _ | exact List.Mem.tail _ (List.Mem.head _) | exact List.Mem.tail _ (List.Mem.tail _ (List.Mem.head _)) | exact List.Mem.tail _ (List.Mem.tail _ (List.Mem.tail _ (List.Mem.head _))) | exact List.Mem.tail _ (List.Mem.tail _ (List.Mem.tail _ (List.Mem.tail _ (List.Mem.head _)))) | exact List.Mem.tail _ (List.Mem.tail _ (List.Mem.tail _ (List.Mem.tail _ (List.Mem.tail _ (List.Mem.head _))))) | exact List.Mem.tail _ (List.Mem.tail _ (List.Mem.tail _ (List.Mem.tail _ (List.Mem.tail _ (List.Mem.tail _ (List.Mem.head _)))))) | exact List.Mem.tail _ (List.Mem.tail _ (List.Mem.tail _ (List.Mem.tail _ (List.Mem.tail _ (List.Mem.tail _ (List.Mem.tail _ (List.Mem.head _))))))) | exact List.Mem.tail _ (List.Mem.tail _ (List.Mem.tail _ (List.Mem.tail _ (List.Mem.tail _ (List.Mem.tail _ (List.Mem.tail _ (List.Mem.tail _ (List.Mem.head _)))))))) | exact List.Mem.tail _ (List.Mem.tail _ (List.Mem.tail _ (List.Mem.tail _ (List.Mem.tail _ (List.Mem.tail _ (List.Mem.tail _ (List.Mem.tail _ (List.Mem.tail _ (List.Mem.head _))))))))) | exact List.Mem.tail _ (List.Mem.tail _ (List.Mem.tail _ (List.Mem.tail _ (List.Mem.tail _ (List.Mem.tail _ (List.Mem.tail _ (List.Mem.tail _ (List.Mem.tail _ (List.Mem.tail _ (List.Mem.head _)))))))))) | exact List.Mem.tail _ (List.Mem.tail _ (List.Mem.tail _ (List.Mem.tail _ (List.Mem.tail _ (List.Mem.tail _ (List.Mem.tail _ (List.Mem.tail _ (List.Mem.tail _ (List.Mem.tail _ (List.Mem.tail _ (List.Mem.head _)))))))))))) rfl, _, rfl, by omega, by omega, _, hz, fun w h => ?_, _, rfl, by rw [← hek]; omega, by rw [← hek]; omega, ?_⟩
      · have := T.row_cells h hrow (hD.w64 e hem) hgs
        rwa [show ((g n e.l.length - 1 : Nat) : Int).toNat = g n e.l.length - 1 by omega]
      rw [addr_add, Nat.zero_add]
      refine ⟨w6, hr, ⟨n + 1, by rw [wr], by omega, ?_⟩, by rw [wr]; exact meas⟩
      have key2 : drvL { D with safe := settleN g D.ws D.safe (n + 1) } = [blk D.p #[.slice (some ⟨D.bs, 0, none⟩) D.safe.length D.safe.length, .map (some D.bm), .map (some D.bp), .bool D.dead, .int .i64 D.left, .bool D.cut] 85,
        rowP 88 64 (some D.bs) D.safe.length D.safe.length (flat ((settleN g D.ws D.safe n).set (keysW D.ws)[n].toNat e.l[g n e.l.length - 1])), mapP D.bm (D.ws.map WE.ent) D.clk, mapP D.bp D.sp D.clk2] ++ D.ws.map WE.row := by
          have hset : settleN g D.ws D.safe (n + 1) = (settleN g D.ws D.safe n).set (keysW D.ws)[n].toNat e.l[g n e.l.length - 1] := by
            rw [hstep, if_pos hp', hek, List.getD_eq_getElem?_getD, hgs]; rfl
          simp only [drvL, hset, List.length_set, settleN_len]
      rw [key2]
      refine hT6.swap ?_
      exact (List.Perm.swap _ _ _).trans (((List.Perm.swap _ _ _).cons _))
    · refine ⟨⟨n + 1, by rw [wr], by omega, ?_⟩, by rw [wr]; exact meas⟩
      have : settleN g D.ws D.safe (n + 1) = settleN g D.ws D.safe n := by rw [hstep, if_neg (by omega)]
      rw [this, key]
      exact hT5
  · have hn' : n = D.ws.length := by omega
    subst hn'
    have hT4 := T.drop hT3
    obtain ⟨w7, hc, hT7⟩ := clear_t (P := Try.prog) (t := 82) (kt := 3) (e := 81) (ty := 0) (ts := #[82]) (cs := #[false]) (b := D.bm) (l := D.ws.map WE.ent) (clock := D.clk) rfl (by kernel_rfl) hT4 (.tail (.tail .head))
    refine ⟨_, rfl, _, hT4.ldA (by first | exact List.Mem.head _ | exact List.Mem.tail _ (List.Mem.head _) | exact List.Mem.tail _ (List.Mem.tail _ (List.Mem.head _)) | exact List.Mem.tail _ (List.Mem.tail _ (List.Mem.tail _ (List.Mem.head _))) | exact List.Mem.tail _ (List.Mem.tail _ (List.Mem.tail _ (List.Mem.tail _ (List.Mem.head _)))) | exact List.Mem.tail _ (List.Mem.tail _ (List.Mem.tail _ (List.Mem.tail _ (List.Mem.tail _ (List.Mem.head _))))) | exact List.Mem.tail _ (List.Mem.tail _ (List.Mem.tail _ (List.Mem.tail _ (List.Mem.tail _ (List.Mem.tail _ (List.Mem.head _)))))) | exact List.Mem.tail _ (List.Mem.tail _ (List.Mem.tail _ (List.Mem.tail _ (List.Mem.tail _ (List.Mem.tail _ (List.Mem.tail _ (List.Mem.head _))))))) | exact List.Mem.tail _ (List.Mem.tail _ (List.Mem.tail _ (List.Mem.tail _ (List.Mem.tail _ (List.Mem.tail _ (List.Mem.tail _ (List.Mem.tail _ (List.Mem.head _)))))))) | exact List.Mem.tail _ (List.Mem.tail _ (List.Mem.tail _ (List.Mem.tail _ (List.Mem.tail _ (List.Mem.tail _ (List.Mem.tail _ (List.Mem.tail _ (List.Mem.tail _ (List.Mem.head _))))))))) | exact List.Mem.tail _ (List.Mem.tail _ (List.Mem.tail _ (List.Mem.tail _ (List.Mem.tail _ (List.Mem.tail _ (List.Mem.tail _ (List.Mem.tail _ (List.Mem.tail _ (List.Mem.tail _ (List.Mem.head _)))))))))) | exact List.Mem.tail _ (List.Mem.tail _ (List.Mem.tail _ (List.Mem.tail _ (List.Mem.tail _ (List.Mem.tail _ (List.Mem.tail _ (List.Mem.tail _ (List.Mem.tail _ (List.Mem.tail _ (List.Mem.tail _ (List.Mem.head _)))))))))))) rfl, w7, hc, rfl, ?_⟩
    have key3 : drvL (settled g D) = [blk D.p #[.slice (some ⟨D.bs, 0, none⟩) D.safe.length D.safe.length, .map (some D.bm), .map (some D.bp), .bool D.dead, .int .i64 D.left, .bool D.cut] 85,
        rowP 88 64 (some D.bs) D.safe.length D.safe.length (flat (settleN g D.ws D.safe D.ws.length)), mapP D.bm [] D.clk, mapP D.bp D.sp D.clk2] := by
      simp only [drvL, settled, settleN_len, List.map_nil, List.append_nil]
    rw [key3]
    refine T.dropAll (G := D.ws.map WE.row) (hT7.swap ?_)
    refine (List.perm_append_comm (l₁ := [blk D.p #[.slice (some ⟨D.bs, 0, none⟩) D.safe.length D.safe.length, .map (some D.bm), .map (some D.bp), .bool D.dead, .int .i64 D.left, .bool D.cut] 85,
        rowP 88 64 (some D.bs) D.safe.length D.safe.length (flat (settleN g D.ws D.safe D.ws.length)), mapP D.bm [] D.clk, mapP D.bp D.sp D.clk2]) (l₂ := D.ws.map WE.row ++ X)).trans ?_
    rw [List.append_assoc]
end Go.Proofs.Ytdppllkjibfjcaa
