import Derived.Test.YtedbbdeeofdepaaGreatDoorM16
/-! mend's laws: loops that they share. -/
namespace Go.Proofs.YtedbbdeeofdepaaGreatDoor
open Go.Sh Go.RowKit
set_option linter.unusedVariables false
set_option linter.unusedSimpArgs false
set_option maxRecDepth 20000
set_option maxHeartbeats 1000000
theorem goodL_dt {l : List ByteArray} {c : Nat} (hc : 4 ≤ c ∧ c ≤ 10) : GoodL (makeF (dtL l (c - 2))) 64 ∧ (makeF (dtL l (c - 2))).length = c := by
  have h := made_good (dtL_all l (c - 2)) (by rw [dtL_len]; omega) (by rw [dtL_len]; omega)
  exact ⟨h.1, by rw [h.2, dtL_len]; omega⟩
theorem GoodL.short {L : List Txt} (h : GoodL L 64) : Short L := fun x hx => by
  obtain ⟨j, hj, rfl⟩ := List.getElem_of_mem hx
  have := h.all j hj
  rw [List.getD_eq_getElem?_getD, List.getElem?_eq_getElem hj] at this
  have this : (L[j]).length = 64 := this
  omega
/-- no text is too long -/
theorem chk_loop {l : List ByteArray} {p : Option Addr} {w0 w : World} (hl : l.length ≤ 1000) (Hs : strsAt w0 p l) (hx : Ext w0 w) {Kn : World → Prop} (hK : (∀ i, i < l.length → (l.getD i noB).size ≤ 100) → Kn w) :
    LoopP (fun I => I [.int .i64 0] w) fun K vs w5 => ∃ n15 : Int, vs = [.int .i64 n15] ∧
      ((decide (n15 < (l.length : Int))) = true → ∃ a52 : Addr, p = some a52 ∧ (0 : Int) ≤ n15 ∧ n15 < (l.length : Int) ∧ ∃ s53 : ByteArray, w5.cell? (Addr.add a52 (n15.toNat * 1)) = some (.string s53) ∧
        ((decide ((s53.size : Int) > 100)) = true → Calls Tryz.prog 8 #[] w5 fun e_4 w6 => ∃ b56 : Bool, e_4 = .returned (.bool b56) ∧ RetR w0 (.bool true) (.bool b56) w6) ∧
        ((decide ((s53.size : Int) > 100)) = false → K [.int .i64 (IntKind.i64.wrap (n15 + 1))] w5)) ∧
      ((decide (n15 < (l.length : Int))) = false → Kn w5) := by
  refine ⟨fun vs w' => ∃ i : Nat, vs = [.int .i64 (i : Int)] ∧ i ≤ l.length ∧ (∀ j, j < i → (l.getD j noB).size ≤ 100) ∧ w' = w, fun vs _ => match vs with | [.int _ i] => ((l.length : Int) - i).toNat | _ => 0, ⟨0, rfl, by omega, (fun j hj => by omega), rfl⟩, ?_⟩
  rintro vs w5 ⟨i, rfl, hi, hs, rfl⟩
  refine ⟨_, rfl, dec_t fun hlt => ?_, dec_f fun hge => ?_⟩
  · obtain ⟨a0, ha0, hc0⟩ := Hs.get (n := (i : Int)) (by omega) (by omega)
    refine ⟨a0, ha0, by omega, by omega, _, cell_ext hx hc0, dec_t fun _ => shown19_end hx, dec_f fun hsz => ⟨⟨i + 1, by rw [wrap64 _ (by omega) (by omega)]; rfl, by omega, fun j hj => ?_, rfl⟩, ?_⟩⟩
    · rcases (by omega : j < i ∨ j = i) with h | h
      · exact hs j h
      · subst h
        rw [Int.toNat_natCast] at hsz
        omega
    · show ((l.length : Int) - IntKind.i64.wrap ((i : Int) + 1)).toNat < ((l.length : Int) - (i : Int)).toNat
      rw [wrap64 _ (by omega) (by omega)]; omega
  · obtain rfl : i = l.length := by omega
    exact hK hs
/-- each place of a row is laid -/
theorem lay_loop {l : List ByteArray} {p : Option Addr} {c0 : Nat} (hl100 : ∀ i, i < l.length → (l.getD i noB).size ≤ 100) {s : RwS} {ds : List Od} {bu : List Int} {gc gk gr row : Int} {w0 w : World} {X : List A} {N c kk k1 k2 : Nat} {f : Nat → Nat → ByteArray}
    (hc : s.c = (c : Int)) (hsk : s.k = (kk : Int)) (hgk : gk = (kk : Int)) (hlb : bu.length = c) (hrow : 0 ≤ row ∧ row < s.r) (hMd : MdS s ds bu N 0 (fun _ => 0) f) (hH : MdH ds N (fun _ => 0) f) (H : Ow (seK s ds bu) [] w0 w X) (Hs : strsAt w0 p l)
    (m1 : blk k1 #[.int .i64 gc, .int .i64 gk, .int .i64 gr] 25 ∈ X) (m2 : blk k2 (rwC s c c) 30 ∈ X) {R : Value → World → Prop} {Kn : World → Prop}
    (hK : ∀ (du : List Od) (fu : Nat → Nat → ByteArray) (w' : World), MdS s du bu N (kk * c) (fun _ => 0) fu → MdH du N (fun _ => 0) fu → (∀ j : Nat, j < kk → rwT s fu row j c = makeF (dtL l (c - 2))) → Ow (seK s du bu) [] w0 w' X → Kn w') :
    LoopP (fun I_1 => I_1 [.int .i64 0] w) fun K_1 vs_1 w25 => ∃ n21 : Int, vs_1 = [.int .i64 n21] ∧ ∃ n76 : Int, w25.cell? ⟨k1, 1, none⟩ = some (.int .i64 n76) ∧
      ((decide (n21 < n76)) = true → ∃ n81_0 : Int, ∃ n81_1 : Int, ∃ n81_2 : Int, ∃ (p81_3 : Option Addr) (l81_3 c81_3 : Nat), ∃ (p81_4 : Option Addr) (l81_4 c81_4 : Nat), (w25.cell? ⟨k2, 0, none⟩ = some (.int .i64 n81_0) ∧ w25.cell? ⟨k2, 1, none⟩ = some (.int .i64 n81_1) ∧ w25.cell? ⟨k2, 2, none⟩ = some (.int .i64 n81_2) ∧ w25.cell? ⟨k2, 3, none⟩ = some (.slice p81_3 l81_3 c81_3) ∧ w25.cell? ⟨k2, 4, none⟩ = some (.slice p81_4 l81_4 c81_4)) ∧
        Calls Tryz.prog 11 #[.agg #[.int .i64 n81_0, .int .i64 n81_1, .int .i64 n81_2, .slice p81_3 l81_3 c81_3, .slice p81_4 l81_4 c81_4], .int .i64 row, .int .i64 n21, .slice p l.length c0] w25 fun e_7 w26 => ∃ (p85_0 : Option Addr) (l85_0 c85_0 : Nat), ∃ b85_1 : Bool, e_7 = .returned (.tuple #[.slice p85_0 l85_0 c85_0, .bool b85_1]) ∧
        ((!b85_1) = true → R (.bool false) w26) ∧ ((!b85_1) = false → K_1 [.int .i64 (IntKind.i64.wrap (n21 + 1))] w26)) ∧
      ((decide (n21 < n76)) = false → Kn w25) := by
  have hok := hMd.ok
  have hB : c ≤ 10 ∧ kk ≤ 1000 := by unfold OkG at hok; omega
  refine ⟨fun vs w' => ∃ (i : Nat) (du : List Od) (fu : Nat → Nat → ByteArray), vs = [.int .i64 (i : Int)] ∧ i ≤ kk ∧ MdS s du bu N (i * c) (fun _ => 0) fu ∧ MdH du N (fun _ => 0) fu ∧ (∀ j : Nat, j < i → rwT s fu row j c = makeF (dtL l (c - 2))) ∧ Ow (seK s du bu) [] w0 w' X, fun vs _ => match vs with | [.int _ i] => ((kk : Int) - i).toNat | _ => 0, ⟨0, ds, f, rfl, by omega, by rw [Nat.zero_mul]; exact hMd, hH, (fun j hj => by omega), H⟩, ?_⟩
  rintro vs w5 ⟨i, du, fu, rfl, hi, hMu, hHu, hru, H5⟩
  refine ⟨_, rfl, gk, H5.ld m1 rfl, ?_⟩
  rw [hgk]
  refine ⟨dec_t fun hlt => ?_, dec_f fun hge => ?_⟩
  · have hlu : du.length = c := by have := hMu.len; omega
    have hic : i * c ≤ 1000 * 10 := Nat.mul_le_mul (by omega) (by omega)
    refine ⟨_, _, _, _, _, _, _, _, _, ⟨H5.ld (c := rwC s c c) m2 rfl, H5.ld (c := rwC s c c) m2 rfl, H5.ld (c := rwC s c c) m2 rfl, H5.ld (c := rwC s c c) m2 rfl, H5.ld (c := rwC s c c) m2 rfl⟩, ?_⟩
    have hLd := laid19_spec (c0 := c0) hl100 (off := (i : Int)) hc (by omega) (fun _ _ => rfl) hrow (by omega) hMu H5 Hs
    rw [hlu, hlb] at hLd
    refine hLd.mono fun e w6 ⟨g, cs, d', f', he, hM', hH', hr', ho', H6⟩ => ⟨_, _, _, _, he, no rfl ⟨⟨i + 1, d', f', by rw [wrap64 _ (by omega) (by omega)]; rfl, by omega, by rw [Nat.succ_mul]; exact hM', hH', fun j hj => ?_, H6.dropX⟩, ?_⟩⟩
    · by_cases e : j = i
      · subst e; exact hr'
      · rw [ho' j (by omega) (by omega)]
        exact hru j (by omega)
    · show ((kk : Int) - IntKind.i64.wrap ((i : Int) + 1)).toNat < ((kk : Int) - (i : Int)).toNat
      rw [wrap64 _ (by omega) (by omega)]; omega
  · obtain rfl : i = kk := by omega
    exact hK du fu w5 hMu hHu hru H5
/-- the data of a row are those that were laid -/
theorem cmp_loop {l : List ByteArray} {p : Option Addr} (hl100 : ∀ i, i < l.length → (l.getD i noB).size ≤ 100) {gc gk gr : Int} {w0 w : World} {h : Kd} {X : List A} {c k1 cg : Nat} {g : Option Nat} (hgc : gc = (c : Int)) (hcB : 4 ≤ c ∧ c ≤ 10)
    (H : Ow h [] w0 w (rowP 9 1 g c cg (txts (makeF (dtL l (c - 2)))) :: X)) (Hs : strsAt w0 p l) (m1 : blk k1 #[.int .i64 gc, .int .i64 gk, .int .i64 gr] 25 ∈ X) {R : Value → World → Prop} {Kn : World → Prop}
    (hK : ∀ w', Ow h [] w0 w' (rowP 9 1 g c cg (txts (makeF (dtL l (c - 2)))) :: X) → Kn w') :
    LoopP (fun I_3 => I_3 [.int .i64 0] w) fun K_3 vs_3 w38 => ∃ n29 : Int, vs_3 = [.int .i64 n29] ∧ ∃ n182 : Int, w38.cell? ⟨k1, 0, none⟩ = some (.int .i64 n182) ∧
      ((decide (n29 < (IntKind.i64.wrap (n182 - 2)))) = true →
      Calls Tryz.prog 14 #[.string (ByteArray.mk #[])] w38 fun e_14 w39 => ∃ s187 : ByteArray, e_14 = .returned (.string s187) ∧
      Join (fun vs_4 w40 => ∃ s30 : ByteArray, vs_4 = [.string s30] ∧ ∃ a199 : Addr, ptr g = some a199 ∧ (0 : Int) ≤ n29 ∧ n29 < (c : Int) ∧ ∃ s200 : ByteArray, w40.cell? (Addr.add a199 (n29.toNat * 1)) = some (.string s200) ∧
        ((!(s200.toList == s30.toList)) = true → R (.bool false) w40) ∧ ((!(s200.toList == s30.toList)) = false → K_3 [.int .i64 (IntKind.i64.wrap (n29 + 1))] w40)) fun J =>
      ((decide (n29 < (l.length : Int))) = true → ∃ a194 : Addr, p = some a194 ∧ (0 : Int) ≤ n29 ∧ n29 < (l.length : Int) ∧ ∃ s195 : ByteArray, w39.cell? (Addr.add a194 (n29.toNat * 1)) = some (.string s195) ∧
        Calls Tryz.prog 14 #[.string s195] w39 fun e_15 w41 => ∃ s196 : ByteArray, e_15 = .returned (.string s196) ∧ J [.string s196] w41) ∧
      ((decide (n29 < (l.length : Int))) = false → J [.string s187] w39)) ∧
      ((decide (n29 < (IntKind.i64.wrap (n182 - 2)))) = false → Kn w38) := by
  have ew2 : IntKind.i64.wrap (gc - 2) = ((c - 2 : Nat) : Int) := by rw [wrap64 _ (by omega) (by omega)]; omega
  refine ⟨fun vs w' => ∃ i : Nat, vs = [.int .i64 (i : Int)] ∧ i ≤ c - 2 ∧ Ow h [] w0 w' (rowP 9 1 g c cg (txts (makeF (dtL l (c - 2)))) :: X), fun vs _ => match vs with | [.int _ i] => ((c : Int) - i).toNat | _ => 0, ⟨0, rfl, by omega, H⟩, ?_⟩
  rintro vs w5 ⟨i, rfl, hi, H5⟩
  refine ⟨_, rfl, gc, H5.ld (List.mem_cons_of_mem _ m1) rfl, ?_⟩
  rw [ew2]
  refine ⟨dec_t fun hlt => ?_, dec_f fun hge => hK w5 H5⟩
  refine (full19_spec _ (by decide) w5).mono fun e w6 ⟨he6, hx6⟩ => ⟨_, he6, Join.intro fun J hJ => ?_⟩
  have H6 := H5.quiet hx6
  have go : ∀ w', Ow h [] w0 w' (rowP 9 1 g c cg (txts (makeF (dtL l (c - 2)))) :: X) → J [.string (fullB (l.getD i noB))] w' := by
    intro w' H'
    have hlen : (makeF (dtL l (c - 2))).length = c := by rw [makeF_len, dtL_len]; omega
    obtain ⟨a1, ha1, hc1⟩ := (T.strs H'.under (g := g) (L := makeF (dtL l (c - 2))) (n := c) (cap := cg) (by repeat (first | exact List.Mem.head _ | refine List.Mem.tail _ ?_))).1.get (n := i) (by omega)
    have e1 : strB ((makeF (dtL l (c - 2))).getD i []) = fullB (l.getD i noB) := by
      rw [makeF_get, dtL_len, if_pos (by omega)]
      unfold dtL
      rw [List.getD_eq_getElem?_getD, List.getElem?_map, List.getElem?_range (by omega)]
      exact strB_list _
    rw [e1] at hc1
    refine hJ _ _ ⟨_, rfl, a1, ha1, by omega, by omega, _, by rw [Int.toNat_natCast]; exact hc1, no (by simp) ⟨⟨i + 1, by rw [wrap64 _ (by omega) (by omega)]; rfl, by omega, H'⟩, ?_⟩⟩
    show ((c : Int) - IntKind.i64.wrap ((i : Int) + 1)).toNat < ((c : Int) - (i : Int)).toNat
    rw [wrap64 _ (by omega) (by omega)]; omega
  refine ⟨dec_t fun hl2 => ?_, dec_f fun hl2 => ?_⟩
  · obtain ⟨a0, ha0, hc0⟩ := Hs.get (n := (i : Int)) (by omega) (by omega)
    rw [Int.toNat_natCast] at hc0
    refine ⟨a0, ha0, by omega, by omega, _, by rw [Int.toNat_natCast]; exact cell_ext H6.ext hc0, ?_⟩
    exact (full19_spec _ (by have := hl100 i (by omega); omega) w6).mono fun e w7 ⟨he7, hx7⟩ => ⟨_, he7, go _ (H6.quiet hx7)⟩
  · have : l.getD i noB = ByteArray.mk #[] := by rw [List.getD_eq_getElem?_getD, List.getElem?_eq_none (by omega)]; rfl
    have h2 := go _ H6
    rw [this] at h2; exact h2
end Go.Proofs.YtedbbdeeofdepaaGreatDoor
