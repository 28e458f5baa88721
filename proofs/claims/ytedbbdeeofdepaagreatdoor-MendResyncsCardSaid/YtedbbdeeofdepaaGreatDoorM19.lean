import Derived.ChangeSame
import Derived.Test.YtedbbdeeofdepaaGreatDoorProg
import Derived.ReadAgain
import Derived.ChangeMaps5
import Derived.SliceStrings
import Derived.ChangeSlices
import Derived.WalkKit
import Derived.ProofKit
import Derived.OpenShut
import Derived.Lib.SmallJoins
import Derived.Test.YtedbbdeeofdepaaGreatDoorM2
import Derived.Test.YtedbbdeeofdepaaGreatDoorM17
import Derived.Test.YtedbbdeeofdepaaGreatDoorM18
section
/-! mend: MendResyncs. -/
namespace Go.Proofs.YtedbbdeeofdepaaGreatDoor
open Go.Sh Go.RowKit
set_option linter.unusedVariables false
set_option linter.unusedSimpArgs false
set_option maxRecDepth 20000
set_option maxHeartbeats 2000000
def wasL (L : Nat → List Txt) (d : Nat) : Nat → List Txt
  | 0 => []
  | m + 1 => wasL L d m ++ (L m).take d
theorem wasL_len {L : Nat → List Txt} {d : Nat} : ∀ {m : Nat}, (∀ j, j < m → d ≤ (L j).length) → (wasL L d m).length = m * d
  | 0, _ => by simp [wasL]
  | m + 1, h => by
    unfold wasL
    rw [List.length_append, wasL_len fun j hj => h j (by omega), List.length_take, Nat.succ_mul, Nat.min_eq_left (h m (by omega))]
theorem wasL_get {L : Nat → List Txt} {d o i : Nat} (hi : i < d) : ∀ {m : Nat}, (∀ j, j < m → d ≤ (L j).length) → o < m → (wasL L d m).getD (o * d + i) [] = (L o).getD i []
  | 0, _, h => by omega
  | m + 1, hl, ho => by
    have hlm := wasL_len (m := m) fun j hj => hl j (by omega)
    unfold wasL
    rw [List.getD_eq_getElem?_getD]
    by_cases e : o < m
    · have : (o + 1) * d ≤ m * d := Nat.mul_le_mul_right d e
      rw [Nat.succ_mul] at this
      rw [List.getElem?_append_left (by omega), ← List.getD_eq_getElem?_getD]
      exact wasL_get hi (fun j hj => hl j (by omega)) e
    · obtain rfl : o = m := by omega
      rw [List.getElem?_append_right (by omega), hlm, Nat.add_sub_cancel_left, List.getElem?_take, if_pos hi, ← List.getD_eq_getElem?_getD]
/-- texts that lie elsewhere are appended -/
theorem apps_ow {h : Kd} {F : List Nat} {w0 w : World} {X Δ : List A} {g : Option Nat} {n cap : Nat} {W M : List Txt} {p : Option Addr} {c ml : Nat} (hml : M.length = ml) (H : Ow h F w0 w X) (hk : Pick (rowP 9 1 g n cap (txts W)) X Δ) (hM : strsL w p M) (hne : M ≠ []) (hn : n + ml ≤ 100000) {K : Option Addr → Nat → Nat → World → Prop}
    (hK : ∀ g' cap' w', Ow h F w0 w' (rowP 9 1 g' (n + ml) cap' (txts (W ++ M)) :: Δ) → K (ptr g') (n + ml) cap' w') :
    ∃ (q : Option Addr) (l d : Nat), ∃ w2, (builtin .append #[22, 22] 22 #[false, false] #[.slice (ptr g) n cap, .slice p ml c]).run Tryz.prog w = .ok (.value (.slice q l d)) w2 ∧ K q l d w2 := by
  subst hml
  obtain ⟨Y, hY, hT⟩ := H
  obtain ⟨a, rfl⟩ := hM.1 (by simpa using hne)
  obtain ⟨g', cap', w', hr, hT'⟩ := append_t (P := Tryz.prog) (t := 22) (ty := 22) (e := 9) (i := Tryz.t9) (z := .string (ByteArray.mk #[])) (size := 1) #[false, false] (by kernel_rfl) (by kernel_rfl) (by kernel_rfl) (by kernel_rfl) (by kernel_rfl)
    hT (hk.app Y) (a := a) (m := M.length) (c := c) (news := txts M) (by rw [Nat.mul_one, txts_len]) (fun j u hu => by
      unfold txts at hu
      rw [List.getElem?_map] at hu
      cases hq : M[j]? with
      | none => rw [hq] at hu; cases hu
      | some x => rw [hq] at hu; cases hu; exact hM.2 a rfl j _ (by rw [List.getElem?_map, hq]; rfl)) (fun u hu => by
      obtain ⟨x, _, rfl⟩ := List.mem_map.1 hu
      rfl) (by simp only [maxLen]; omega) (by
      have : (Tryz.t9).bytes = 16 := by kernel_rfl
      rw [this]; omega)
  have e : txts W ++ txts M = txts (W ++ M) := by unfold txts; rw [List.map_append]
  rw [e] at hT'
  exact ⟨_, _, _, w', hr, hK g' cap' w' ⟨Y, hY, hT'⟩⟩
theorem resyncs19_law {l : List ByteArray} {p : Option Addr} {c0 : Nat} {w : World} (Hs : strsAt w p l) {a b : Int} (ha : 0 ≤ a ∧ a ≤ 255) (hb : 0 ≤ b ∧ b ≤ 255) :
    Ret Tryz.prog 4 #[.int .u8 a, .int .u8 b, .slice p l.length c0] w (.bool true) := by
  refine ret_of (revetmentlaw19_MendResyncs_calls ?_)
  unfold revetmentlaw19_MendResyncs
  refine ⟨dec_t fun _ => shown19_end (.refl w), dec_f fun hl60 => ?_⟩
  refine (shown19_spec w).mono fun e w2 ⟨he2, hx2⟩ => ⟨_, he2, no rfl ?_⟩
  refine setup19 (d := 0) ha hb (by omega) hx2 fun gc gk gr N s ds k1 k2 w3 e1 e2 e3 hgeo hN hpos hMd hH hl H3 => ?_
  obtain ⟨ec, ek, er⟩ := hgeo
  have hgB : (4 ≤ gc ∧ gc ≤ 7) ∧ (1 ≤ gk ∧ gk ≤ 3) ∧ gr = 1 := by omega
  obtain ⟨c, hc⟩ : ∃ c : Nat, gc = (c : Int) := ⟨gc.toNat, by omega⟩
  obtain ⟨kk, hkk⟩ : ∃ c : Nat, gk = (c : Int) := ⟨gk.toNat, by omega⟩
  have hcn : gc.toNat = c := by omega
  rw [hcn] at hl hMd H3
  have hsc : s.c = (c : Int) := by omega
  have hsk : s.k = (kk : Int) := by omega
  have hok := hMd.ok
  generalize hX : [blk k2 (rwC s c c) 30, blk k1 #[.int .i64 gc, .int .i64 gk, .int .i64 gr] 25] = X at H3
  have m1 : blk k1 #[.int .i64 gc, .int .i64 gk, .int .i64 gr] 25 ∈ X := by rw [← hX]; exact (by repeat (first | exact List.Mem.head _ | refine List.Mem.tail _ ?_))
  have m2 : blk k2 (rwC s c c) 30 ∈ X := by rw [← hX]; exact (by repeat (first | exact List.Mem.head _ | refine List.Mem.tail _ ?_))
  have c1 : ∀ {h : Kd} {w' : World} {Q : List A}, Ow h [] w w' (Q ++ X) → ∀ i v, (#[.int .i64 gc, .int .i64 gk, .int .i64 gr] : Array Value)[i]? = some v → w'.cell? ⟨k1, i, none⟩ = some v := fun h' i v hv => h'.ld (List.mem_append_right _ m1) hv
  have c2 : ∀ {h : Kd} {w' : World} {Q : List A}, Ow h [] w w' (Q ++ X) → ∀ i v, (rwC s c c)[i]? = some v → w'.cell? ⟨k2, i, none⟩ = some v := fun h' i v hv => h'.ld (List.mem_append_right _ m2) hv
  have hrow : 0 ≤ (0 : Int) ∧ (0 : Int) < s.r := by omega
  have hlb : (List.replicate c gr).length = c := List.length_replicate
  have hbB : ∀ i, i < c → (0 : Int) < (List.replicate c gr).getD i 0 := fun i hi => by rw [repl_getD hi]; omega
  obtain ⟨g1, g2, q1, q2, _⟩ := se_open H3
  have hNk : N = 4 + kk := by
    rw [hgB.2.2, Int.one_mul] at hN
    omega
  have ew2 : IntKind.i64.wrap (gc - 2) = ((c - 2 : Nat) : Int) := by rw [wrap64 _ (by omega) (by omega)]; omega
  -- sectors are changed
  refine ⟨fun vs w' => ∃ (i : Nat) (du : List Od) (fu : Nat → Nat → ByteArray), vs = [.int .i64 (i : Int)] ∧ i ≤ l.length ∧ MdS s du (List.replicate c gr) N 0 (fun _ => 0) fu ∧ MdH du N (fun _ => 0) fu ∧ (∀ x y, (fu x y).size = 64) ∧ Ow (seK s du (List.replicate c gr)) [] w w' X, fun vs _ => match vs with | [.int _ i] => ((l.length : Int) - i).toNat | _ => 0, ⟨0, ds, _, rfl, by omega, hMd, hH, fun _ _ => zeroSec_size, H3⟩, ?_⟩
  clear H3
  rintro vs w4 ⟨i, du, fu, rfl, hi, hMu, hHu, hsz, H4⟩
  have hlu : du.length = c := by have := hMu.len; omega
  refine ⟨_, rfl, dec_t fun hlt => ?_, dec_f fun hge => ?_⟩
  · obtain ⟨a0, ha0, hc0⟩ := Hs.get (n := (i : Int)) (by omega) (by omega)
    rw [Int.toNat_natCast] at hc0
    refine ⟨a0, ha0, by omega, by omega, _, by rw [Int.toNat_natCast]; exact cell_ext H4.ext hc0, dec_t fun _ => shown19_end H4.ext, dec_f fun hs100 => ?_⟩
    have et : ∀ {n m : Nat}, Int.tmod (n : Int) (m : Int) = ((n % m : Nat) : Int) := fun {n m} => by rw [Int.tmod_eq_emod_of_nonneg (by omega)]; rfl
    have hmod : i % c < c := Nat.mod_lt _ (by omega)
    have em : Int.tmod (i : Int) (c : Int) = ((i % c : Nat) : Int) := et
    have hdv : Int.tdiv (i : Int) (c : Int) = ((i / c : Nat) : Int) := by rw [Int.tdiv_eq_ediv_of_nonneg (by omega)]; rfl
    have hdl : i / c ≤ i := Nat.div_le_self _ _
    generalize i % c = im at hmod em
    generalize i / c = ic at hdv hdl
    have hdm : ic % kk < kk := Nat.mod_lt _ (by omega)
    have ek2 : Int.tmod (ic : Int) (kk : Int) = ((ic % kk : Nat) : Int) := et
    generalize ic % kk = ik at hdm ek2
    obtain ⟨pp, aa, hk, hput, hM7, hH7⟩ := hMu.change hHu (i := im) (j := 4 + ik) (by omega) rfl (by omega) (fullB_size (l.getD i noB))
    have pc : ∀ {w' : World}, Ow (seK s du (List.replicate c gr)) [] w w' X → w'.cell? (Addr.add ⟨g1, 0, none⟩ (im * 1)) = some (.pointer (some ⟨pp, 0, none⟩)) := fun h' => by
      obtain ⟨ad, had, hcl⟩ := se_dcell h' hk
      rw [q1] at had; cases had
      exact hcl
    refine ⟨fun w' => Ow (seK s du (List.replicate c gr)) [] w w' X, H4.drew, _, _, _, fun w' h' => c2 (Q := []) h' 3 _ rfl, gc, fun w' h' => c1 (Q := []) h' 0 _ rfl, by omega, ⟨g1, 0, none⟩, q1, ?_⟩
    rw [hc, em, Int.toNat_natCast]
    refine ⟨by omega, by omega, _, fun w' h' => pc h', (c : Int), fun w' h' => (by rw [← hc]; exact c1 (Q := []) h' 0 _ rfl), by omega, (kk : Int), fun w' h' => (by rw [← hkk]; exact c1 (Q := []) h' 1 _ rfl), by omega, a0, ha0, by omega, by omega, l.getD i noB, fun w' h' => (by rw [Int.toNat_natCast]; exact cell_ext h'.ext hc0), ?_⟩
    refine (full19_spec _ (by omega) _).mono fun e w5 ⟨he5, hx5⟩ => ⟨_, he5, H4.drew.quiet hx5, ?_⟩
    rw [hdv, wrap64 (ic : Int) (by omega) (by omega), ek2, wrap64 (4 + (ik : Int)) (by omega) (by omega), show (4 : Int) + (ik : Int) = ((4 + ik : Nat) : Int) by omega]
    refine (se_on (H4.drew.quiet hx5) hk fun Z hZ => change_a hZ _ (fullB (l.getD i noB))).mono fun e w6 ⟨he6, H6⟩ => ⟨_, he6, ⟨i + 1, _, _, by rw [wrap64 _ (by omega) (by omega)]; rfl, by omega, hM7, hH7, fun x y => ?_, H6⟩, ?_⟩
    · unfold upF
      split
      · exact fullB_size _
      · exact hsz x y
    · show ((l.length : Int) - IntKind.i64.wrap ((i : Int) + 1)).toNat < ((l.length : Int) - (i : Int)).toNat
      rw [wrap64 _ (by omega) (by omega)]; omega
  clear hMd hH hge hi
  -- what is read
  generalize hLL : (fun m : Nat => rwT s fu 0 m c) = L
  have hLm : ∀ m : Nat, rwT s fu 0 m c = L m := fun m => by rw [← hLL]
  have hLl : ∀ m, (L m).length = c := fun m => by rw [← hLm, rwT_len]
  have hLa : ∀ m, AllLen (L m) 64 := fun m j hj => by
    rw [hLl] at hj
    rw [← hLm, rwT_get _ _ _ _ hj]
    have := hsz (colR s 0 j).toNat (sectorG s.c s.k s.r 0 m).toNat
    have e : ((fu (colR s 0 j).toNat (sectorG s.c s.k s.r 0 m).toNat).data.toList).length = (fu (colR s 0 j).toNat (sectorG s.c s.k s.r 0 m).toNat).size := by rw [Array.length_toList]; rfl
    exact e.trans this
  have hwl : ∀ m : Nat, (wasL L (c - 2) m).length = m * (c - 2) := fun m => wasL_len fun j _ => by rw [hLl]; omega
  refine Ow.alloc H4 fun k76 w5 H5 => ?_
  have H5 : Ow (seK s du (List.replicate c gr)) [] w w5 (rowP 9 1 (some k76) (0 * (c - 2)) 0 (txts (wasL L (c - 2) 0)) :: X) := by
    rw [Nat.zero_mul]
    exact H5.into fun Y hT hb => hb _ _ (blk_row hT rfl rfl (by decide))
  refine ⟨fun vs w' => ∃ (m : Nat) (g : Option Nat) (cp : Nat), vs = [.slice (ptr g) (m * (c - 2)) cp, .int .i64 (m : Int)] ∧ m ≤ kk ∧ Ow (seK s du (List.replicate c gr)) [] w w' ([rowP 9 1 g (m * (c - 2)) cp (txts (wasL L (c - 2) m))] ++ X), fun vs _ => match vs with | [_, .int _ i] => ((kk : Int) - i).toNat | _ => 0, ⟨0, some k76, 0, by rw [Nat.zero_mul]; rfl, by omega, H5⟩, ?_⟩
  clear H5 H4
  rintro vs w6 ⟨m, g, cp, rfl, hm, H6⟩
  have hmc : m * (c - 2) ≤ 3 * 5 := Nat.mul_le_mul (by omega) (by omega)
  refine ⟨_, _, _, _, rfl, gk, c1 H6 1 _ rfl, ?_⟩
  rw [hkk]
  refine ⟨dec_t fun hlt => ?_, dec_f fun hge => ?_⟩
  · refine ⟨_, _, _, _, _, _, _, _, _, ⟨c2 H6 0 _ rfl, c2 H6 1 _ rfl, c2 H6 2 _ rfl, c2 H6 3 _ rfl, c2 H6 4 _ rfl⟩, ?_⟩
    have hR := read16_spec (se_w H6) (by omega) (hMu.few.mono (by omega)) 0 m
    rw [hlu, hlb, hMu.readAll hrow (off := (m : Int)) (by omega) hsc (fun _ _ => rfl) hbB, hLm] at hR
    refine hR.mono fun e w7 ⟨v, he7, gx, cx, gl, cl', hv, hT7⟩ => ?_
    subst hv
    have hT7 : T [] w6 w7 [rowP 9 1 gx (L m).length cx (txts (L m)), rowP 3 1 gl ([] : List Int).length cl' (intsI [])] := hT7
    have H7 := Ow.new H6 hT7
    refine ⟨_, _, _, _, _, _, _, he7, no rfl ⟨gc, c1 (Q := [_, _, _]) H7 0 _ rfl, no (by show (((L m).length : Int) != gc) = false; rw [hLl, hc]; simp) ⟨gc, c1 (Q := [_, _, _]) H7 0 _ rfl, ?_⟩⟩⟩
    rw [ew2]
    have hs7 := T.strs H7.under (g := gx) (L := L m) (n := (L m).length) (cap := cx) (by repeat (first | exact List.Mem.head _ | refine List.Mem.tail _ ?_))
    refine ⟨_, _, _, w7, strs_to (by omega) (by show ((c - 2 : Nat) : Int) ≤ _; have := hs7.2.2; have := hLl m; omega) w7, ?_⟩
    rw [Int.toNat_natCast]
    have htl : ((L m).take (c - 2)).length = c - 2 := by rw [List.length_take, hLl]; omega
    refine apps_ow (g := g) (n := m * (c - 2)) (cap := cp) (W := wasL L (c - 2) m) (M := (L m).take (c - 2)) (p := ptr gx) (c := cx) htl H7 (Δ := [rowP 9 1 gx (L m).length cx (txts (L m)), rowP 3 1 gl ([] : List Int).length cl' (intsI [])] ++ X) (.tail (.tail .head)) (hs7.1.take _) (by intro h; rw [h] at htl; simp at htl; omega) (by omega) fun g' cap' w8 H8 => ⟨⟨m + 1, g', cap', by rw [wrap64 _ (by omega) (by omega), Nat.succ_mul]; rfl, by omega, ?_⟩, ?_⟩
    · rw [Nat.succ_mul]
      have H8 : Ow (seK s du (List.replicate c gr)) [] w w8 (rowP 9 1 g' (m * (c - 2) + (c - 2)) cap' (txts (wasL L (c - 2) (m + 1))) :: rowP 9 1 gx (L m).length cx (txts (L m)) :: rowP 3 1 gl ([] : List Int).length cl' (intsI []) :: X) := H8
      exact ((H8.perm (.swap _ _ _)).dropX.perm (.swap _ _ _)).dropX
    · show ((kk : Int) - IntKind.i64.wrap ((m : Int) + 1)).toNat < ((kk : Int) - (m : Int)).toNat
      rw [wrap64 _ (by omega) (by omega)]; omega
  obtain rfl : m = kk := by omega
  refine ⟨_, _, _, _, _, _, _, _, _, ⟨c2 H6 0 _ rfl, c2 H6 1 _ rfl, c2 H6 2 _ rfl, c2 H6 3 _ rfl, c2 H6 4 _ rfl⟩, ?_⟩
  have hRs := resync19_spec (s := s) (bu := List.replicate c gr) (row := 0) (N := N) (M := 0) (kk := m) (c := c) (K := fun _ => 0) (L := L) hsk hsc (by omega) (fun _ _ => rfl) hbB hrow (fun j hj => ⟨hLl j, hLa j⟩) ⟨fu, hMu, fun j hj => by rw [if_neg (by omega), hLm]⟩ H6
  rw [hlu, hlb] at hRs
  refine hRs.mono fun e w7 ⟨he7, H7⟩ => ⟨_, he7, no rfl ?_⟩
  obtain ⟨du7, ⟨d7, e7, hD7⟩, H7⟩ := so_open H7
  rw [e7] at H7
  obtain ⟨f7, hM7, hH7, hr7⟩ := mdD_end hD7
  have hl7 : (d7.map flushO).length = c := by have := hM7.len; omega
  generalize d7.map flushO = d8 at H7 hM7 hH7 hl7
  have hG : ∀ j, GoodL (makeF ((L j).take (c - 2))) 64 ∧ (makeF ((L j).take (c - 2))).length = c := fun j => by
    have htl : ((L j).take (c - 2)).length = c - 2 := by rw [List.length_take, hLl]; omega
    have hta : AllLen ((L j).take (c - 2)) 64 := fun t ht => by
      rw [htl] at ht
      rw [take_get _ _ _ ht]
      exact hLa j t (by rw [hLl]; omega)
    have := made_good hta (by omega) (by omega)
    exact ⟨this.1, by rw [this.2]; omega⟩
  refine ⟨fun vs w' => ∃ t : Nat, vs = [.int .i64 (t : Int)] ∧ t ≤ m ∧ Ow (seK s d8 (List.replicate c gr)) [] w w' ([rowP 9 1 g (m * (c - 2)) cp (txts (wasL L (c - 2) m))] ++ X), fun vs _ => match vs with | [.int _ t] => ((m : Int) - t).toNat | _ => 0, ⟨0, rfl, by omega, H7⟩, ?_⟩
  clear H7 H6
  rintro vs w8 ⟨t, rfl, ht, H8⟩
  refine ⟨_, rfl, gk, c1 H8 1 _ rfl, ?_⟩
  rw [hkk]
  refine ⟨dec_t fun hlt => ?_, dec_f fun hge2 => ⟨rfl, H8.ext⟩⟩
  refine ⟨_, _, _, _, _, _, _, _, _, ⟨c2 H8 0 _ rfl, c2 H8 1 _ rfl, c2 H8 2 _ rfl, c2 H8 3 _ rfl, c2 H8 4 _ rfl⟩, ?_⟩
  have hR := read16_spec (se_w H8) (by omega) (hM7.few.mono (by omega)) 0 t
  rw [hl7, hlb, hM7.readAll hrow (off := (t : Int)) (by omega) hsc (fun _ _ => rfl) hbB, hr7 t (by omega)] at hR
  obtain ⟨hGt, hGl⟩ := hG t
  generalize hGG : makeF ((L t).take (c - 2)) = Gt at hR hGt hGl
  refine hR.mono fun e w9 ⟨v, he9, gx, cx, gl, cl', hv, hT9⟩ => ?_
  subst hv
  have hT9 : T [] w8 w9 [rowP 9 1 gx Gt.length cx (txts Gt), rowP 3 1 gl ([] : List Int).length cl' (intsI [])] := hT9
  have H9 := Ow.new H8 hT9
  have hs9 := T.strs H9.under (g := gx) (L := Gt) (n := Gt.length) (cap := cx) (by repeat (first | exact List.Mem.head _ | refine List.Mem.tail _ ?_))
  have hcap : Gt.length ≤ cx := (H9.under.says (x := rowP 9 1 gx Gt.length cx (txts Gt)) (by repeat (first | exact List.Mem.head _ | refine List.Mem.tail _ ?_))).2.1
  refine ⟨_, _, _, _, _, _, _, he9, no rfl ?_⟩
  refine (goodR_spec hGt.short (by omega) (by omega) hcap hs9.1).mono fun e w10 ⟨he10, hx10⟩ => ⟨_, he10, no (by rw [hGt.goodF]; rfl) ?_⟩
  refine ⟨fun vs w' => ∃ j : Nat, vs = [.int .i64 (j : Int)] ∧ j ≤ c - 2 ∧ Ow (seK s d8 (List.replicate c gr)) [] w w' ([rowP 9 1 gx Gt.length cx (txts Gt), rowP 3 1 gl ([] : List Int).length cl' (intsI [])] ++ ([rowP 9 1 g (m * (c - 2)) cp (txts (wasL L (c - 2) m))] ++ X)), fun vs _ => match vs with | [.int _ j] => ((c : Int) - j).toNat | _ => 0, ⟨0, rfl, by omega, H9.quiet hx10⟩, ?_⟩
  clear H9 H8 he10
  rintro vs w11 ⟨j, rfl, hj, H11⟩
  refine ⟨_, rfl, gc, c1 (Q := [_, _, _]) H11 0 _ rfl, ?_⟩
  rw [ew2]
  refine ⟨dec_t fun hlt3 => ?_, dec_f fun hge3 => ⟨⟨t + 1, by rw [wrap64 _ (by omega) (by omega)]; rfl, by omega, H11.dropX.dropX⟩, ?_⟩⟩
  · have hst : ∀ {w' : World}, Ow (seK s d8 (List.replicate c gr)) [] w w' ([rowP 9 1 gx Gt.length cx (txts Gt), rowP 3 1 gl ([] : List Int).length cl' (intsI [])] ++ ([rowP 9 1 g (m * (c - 2)) cp (txts (wasL L (c - 2) m))] ++ X)) → strsL w' (ptr gx) Gt ∧ strsL w' (ptr g) (wasL L (c - 2) m) := fun h' => ⟨(T.strs h'.under (g := gx) (L := Gt) (n := Gt.length) (cap := cx) (by repeat (first | exact List.Mem.head _ | refine List.Mem.tail _ ?_))).1, (T.strs h'.under (g := g) (L := wasL L (c - 2) m) (n := m * (c - 2)) (cap := cp) (by repeat (first | exact List.Mem.head _ | refine List.Mem.tail _ ?_))).1⟩
    have htc : t * (c - 2) + (c - 2) ≤ m * (c - 2) := by
      have := Nat.mul_le_mul_right (c - 2) (show t + 1 ≤ m by omega)
      rw [Nat.succ_mul] at this
      exact this
    have hix : IntKind.i64.wrap (IntKind.i64.wrap ((t : Int) * ((c - 2 : Nat) : Int)) + (j : Int)) = ((t * (c - 2) + j : Nat) : Int) := by
      have e1 : (t : Int) * ((c - 2 : Nat) : Int) = ((t * (c - 2) : Nat) : Int) := by rw [Int.natCast_mul]
      rw [e1, wrap64 ((t * (c - 2) : Nat) : Int) (by omega) (by omega), wrap64 _ (by omega) (by omega)]
      omega
    have H12 := H11.drew
    obtain ⟨a1, ha1, _⟩ := (hst H12).1.get (n := j) (by omega)
    obtain ⟨a2, ha2, _⟩ := (hst H12).2.get (n := t * (c - 2) + j) (by rw [hwl]; omega)
    have hsame : (wasL L (c - 2) m).getD (t * (c - 2) + j) [] = Gt.getD j [] := by
      rw [wasL_get (by omega) (fun i _ => by rw [hLl]; omega) (by omega), ← hGG, makeF_get, if_pos (by rw [List.length_take, hLl]; omega), take_get _ _ _ (by omega)]
    refine ⟨fun w' => Ow (seK s d8 (List.replicate c gr)) [] w w' ([rowP 9 1 gx Gt.length cx (txts Gt), rowP 3 1 gl ([] : List Int).length cl' (intsI [])] ++ ([rowP 9 1 g (m * (c - 2)) cp (txts (wasL L (c - 2) m))] ++ X)), H12, a1, ha1, by omega, by show (j : Int) < (Gt.length : Int); omega, strB (Gt.getD j []), fun w' h' => ?_, gc, fun w' h' => c1 (Q := [_, _, _]) h' 0 _ rfl, ?_⟩
    · obtain ⟨a1', ha1', hcl⟩ := (hst h').1.get (n := j) (by omega)
      rw [ha1] at ha1'; cases ha1'
      rw [Int.toNat_natCast]; exact hcl
    rw [ew2, hix]
    refine ⟨a2, ha2, by omega, by omega, strB (Gt.getD j []), fun w' h' => ?_, no (by simp) ⟨⟨j + 1, by rw [wrap64 _ (by omega) (by omega)]; rfl, by omega, H12⟩, ?_⟩⟩
    · obtain ⟨a2', ha2', hcl⟩ := (hst h').2.get (n := t * (c - 2) + j) (by rw [hwl]; omega)
      rw [ha2] at ha2'; cases ha2'
      rw [hsame] at hcl
      rw [Int.toNat_natCast]; exact hcl
    · show ((c : Int) - IntKind.i64.wrap ((j : Int) + 1)).toNat < ((c : Int) - (j : Int)).toNat
      rw [wrap64 _ (by omega) (by omega)]; omega
  · show ((m : Int) - IntKind.i64.wrap ((t : Int) + 1)).toNat < ((m : Int) - (t : Int)).toNat
    rw [wrap64 _ (by omega) (by omega)]; omega
end Go.Proofs.YtedbbdeeofdepaaGreatDoor
end
section
/-! A row's end, of a call that makes no more than new memory. -/
namespace Go.Sh
open Go.RowKit Go.ChangeShapes Go.WideShapes
theorem Ext.kept {W W' : World} (h : Ext W W') (may : MemPlace → Prop) : W.keptBut W' may := by
  refine ⟨h.os, h.output, fun i hi => ?_⟩
  rw [h.heap i hi]
  cases hw : W.heap[i]? with
  | none => simp
  | some o => cases o <;> simp
theorem Ext.frozen {W W' : World} (h : Ext W W') {a : Addr} (ha : a.block < W.heap.size) : W'.frozen? a = W.frozen? a := by simp only [World.frozen?, h.heap _ ha]
theorem post_ext {P : Program} {H : Type} {enc : TypeId × Value → H} {f : Func} {s : ChangeSpec} {apart fresh handsOn again : Bool} {W W' : World} {args : Array Value} {v : Value} {ds gs : List (DataW H)} {before pa pv : List MemPlace}
    (hW : DataW.Whole enc P f.params.toList s.vars apart W args.toList ds gs before)
    (hres : ∀ (b : Nat) (sp : Nat → Bool) (hd : Bool), DataW.TrodAll enc P W' b sp hd f.resultTypes.toList (v.resultList f.resultTypes.size) (s.fn H (ds ++ gs)).results [])
    (hargs : ∀ sp : Nat → Bool, (∀ p ∈ before, sp p.block = true) → DataW.TrodAll enc P W' 0 sp true f.params.toList args.toList (s.fn H (ds ++ gs)).args pa)
    (hvars : ∀ sp : Nat → Bool, (∀ p ∈ before, sp p.block = true) → DataW.TrodVars enc P W' sp s.vars (s.fn H (ds ++ gs)).vars pv)
    (hps : before = pa ++ pv) (hx : Ext W W')
    (hok : ∀ (j : Nat) (t : TypeId) (r : Value), f.resultTypes[j]? = some t → (v.resultList f.resultTypes.size)[j]? = some r → Value.okWide P W' .any 0 t r) :
    s.post enc P f apart fresh handsOn again W args v W' := by
  have hlt : ∀ p ∈ before, p.block < W.heap.size := hW.lt
  have hold : ∀ p ∈ before, (fun b => decide (b < W.heap.size)) p.block = true := fun p hp => by simpa using hlt p hp
  refine ⟨ds, gs, before, [], pa, pv, hW, hres _ _ _, hargs _ hold, hvars _ hold, World.keptBut_mono (fun p hp => ⟨hp, ?_⟩) (hx.kept (· ∈ before)), fun _ => ?_⟩
  · rw [hps, List.mem_append] at hp
    exact Or.inr hp
  · obtain ⟨_, _, _, _, _, hz, hn⟩ := hW
    refine ⟨hok, _, _, ([] ++ pa) ++ pv, ⟨[] ++ pa, pv, trodAll_append (hargs _ (fun _ _ => rfl)) (hres _ _ _), hvars _ (fun _ _ => rfl), rfl, ?_, ?_⟩, ?_⟩
    · intro b off hp
      have hb : (MemPlace.cell b off) ∈ before := by rw [hps]; simpa using hp
      rw [hx.frozen (hlt _ hb)]
      exact hz b off hb
    · intro ha
      have := hn ha
      rw [hps] at this
      simpa using this
    · intro p hp _
      rw [hps]
      simpa using hp
theorem u8_of {a : Int} (h : (Lit.int .u8 a).wf = true) : 0 ≤ a ∧ a ≤ 255 := by
  simp [Lit.wf, IntKind.min, IntKind.max, IntKind.bits, IntKind.signed] at h
  omega
theorem u16_of {a : Int} (h : (Lit.int .u16 a).wf = true) : 0 ≤ a ∧ a ≤ 65535 := by
  simp [Lit.wf, IntKind.min, IntKind.max, IntKind.bits, IntKind.signed] at h
  omega
theorem i64_of {a : Int} (h : (Lit.int .i64 a).wf = true) : -9223372036854775808 ≤ a ∧ a ≤ 9223372036854775807 := by
  simp [Lit.wf, IntKind.min, IntKind.max, IntKind.bits, IntKind.signed] at h
  omega
end Go.Sh
end
section
/-! A law's row: what its arguments tell, and that they read as they did. -/
namespace Go.Sh
open Go.ChangeShapes Go.WideShapes Go.ChangeAt Go.RowKit
set_option linter.unusedVariables false
theorem Ext.same {W W' : World} (h : Ext W W') {p : MemPlace} (hp : p.block < W.heap.size) : W.sameAt W' p := by
  cases p with
  | cell b o => show W'.cell? ⟨b, o, none⟩ = W.cell? ⟨b, o, none⟩; unfold World.cell?; rw [h.heap b hp]
  | map b => show W'.heap[b]? = W.heap[b]?; exact h.heap b hp
theorem trodAll_carry {H : Type} {enc : TypeId × Value → H} {P : Program} {W W' : World} {sp : Nat → Bool} : ∀ {ts : List TypeId} {vs : List Value} {ds : List (DataW H)} {ps : List MemPlace}, DataW.TrodAll enc P W 0 sp true ts vs ds ps → (∀ p ∈ ps, W.sameAt W' p) → DataW.TrodAll enc P W' 0 sp true ts vs ds ps
  | [], [], [], _, h, _ => h
  | _ :: _, _ :: _, _ :: _, _, ⟨p, q, ⟨n, h1⟩, h2, e⟩, hs => ⟨p, q, ⟨n, DataW.trod_carry n _ _ _ h1 fun x hx => hs x (by rw [e]; exact List.mem_append_left _ hx)⟩, trodAll_carry h2 fun x hx => hs x (by rw [e]; exact List.mem_append_right _ hx), e⟩
theorem law_post {P : Program} {H : Type} {enc : TypeId × Value → H} {f : Func} {s : ChangeSpec} {apart fresh handsOn again : Bool} {W W' : World} {args : Array Value} {ds gs : List (DataW H)} {before : List MemPlace} {tb : TypeId}
    (hl : laidOutB P = true) (hm : mapsRowed P = true) (hz : ((List.range P.types.size).all fun t => match P.underlying t with | some (.slice e) => decide (0 < P.cellsOf e) | _ => true) = true) (htp : (f.params.toList.all fun t => decide (t < P.types.size)) = true)
    (hW : DataW.Whole enc P f.params.toList s.vars apart W args.toList ds gs before) (hv : s.vars = []) (hargs : (s.fn H (ds ++ gs)).args = ds) (hres : (s.fn H (ds ++ gs)).results = [.lit (.bool true)]) (hvars : (s.fn H (ds ++ gs)).vars = [])
    (hrt : f.resultTypes = #[tb]) (htb : P.underlying tb = some .bool) (hx : Ext W W') : s.post enc P f apart fresh handsOn again W args (.bool true) W' := by
  have hlt := hW.lt
  have hW' := hW
  obtain ⟨p, q, hA, hV, rfl, hfz, hnd⟩ := hW
  rw [hv] at hV
  obtain ⟨rfl, rfl⟩ := trodVars_none hV
  rw [List.append_nil] at hW' hlt
  have hT : ∀ t ∈ f.params.toList, t < P.types.size := fun t ht => by simpa using List.all_eq_true.1 htp t ht
  refine post_ext (pa := p) (pv := []) hW' (fun _ _ _ => ?_) (fun sp hsp => ?_) (fun sp _ => ?_) (by simp) hx ?_
  · rw [hres, hrt]
    exact trodAll_cons_mk (shut_bool htb _) trodAll_mk0
  · rw [hargs]
    exact DataW.TrodAll.respare (kids_rows hl hm) (slices_full_of P hz) hT (trodAll_carry hA fun x hx' => hx.same (hlt x hx')) hsp
  · rw [hvars, hv]; rfl
  · exact ok_one hrt rfl (okWide_bool_mk htb _)
section
variable {P : Program} {H : Type} {enc : TypeId × Value → H} {w : World} {t e : TypeId} {v : Value} {d : DataW H} {ps : List MemPlace} {r : Reach} {b0 : Nat}
theorem open_strs (ht : P.underlying t = some (.slice e)) (he : P.underlying e = some .string) (hc : P.cellsOf e = 1) (hval : Value.okWide P w r b0 t v) (hd : DataW.Trod enc P w 0 (fun _ => true) true t v d ps) :
    ∃ (p : Option Addr) (c : Nat) (l : List ByteArray), v = .slice p l.length c ∧ (l ≠ [] → ∃ a, p = some a) ∧ (∀ a, p = some a → ∀ j s, l[j]? = some s → w.cell? (a.add j) = some (.string s)) ∧ ∀ s ∈ l, s.size ≤ maxLen := by
  obtain ⟨a0, len, cap, rfl⟩ := okWide_slice ht hval
  obtain ⟨fuel, hf⟩ := hd
  rcases open_strings ht he hc hf with ⟨h0, -⟩ | ⟨a, len', cap', ss, h0, h1, h2, h3, h4, h5, h6, h7⟩
  · have : a0 = none ∧ len = 0 ∧ cap = 0 := by simpa [Value.cells] using h0
    obtain ⟨rfl, rfl, rfl⟩ := this
    exact ⟨none, 0, [], rfl, fun h => absurd rfl h, (fun a ha => by cases ha), fun s hs => by cases hs⟩
  · have : a0 = some a ∧ len = len' ∧ cap = cap' := by simpa [Value.cells] using h0
    obtain ⟨rfl, rfl, rfl⟩ := this
    simp only [if_true] at h4
    refine ⟨some a, cap, ss.take len, by rw [List.length_take]; congr 1; omega, fun _ => ⟨a, rfl⟩, fun a' ha' j s hs => ?_, fun s hs => h7 s (List.mem_of_mem_take hs)⟩
    cases ha'
    rw [List.getElem?_take] at hs
    split at hs
    · have hj := (List.getElem?_eq_some_iff.1 hs).1
      rw [h6 j hj, List.getD_eq_getElem?_getD, hs]; rfl
    · cases hs
theorem open_u8s (ht : P.underlying t = some (.slice e)) (he : P.underlying e = some (.int .u8)) (hc : P.cellsOf e = 1) (hval : Value.okWide P w r b0 t v) (hd : DataW.Trod enc P w 0 (fun _ => true) true t v d ps) :
    ∃ (p : Option Addr) (c : Nat) (l : List UInt8), v = .slice p l.length c ∧ (l ≠ [] → ∃ a, p = some a) ∧ (∀ a, p = some a → ∀ j (s : UInt8), l[j]? = some s → w.cell? (a.add j) = some (.int .u8 s.toNat)) := by
  obtain ⟨a0, len, cap, rfl⟩ := okWide_slice ht hval
  obtain ⟨fuel, hf⟩ := hd
  rcases open_ints ht he hc hf with ⟨h0, -⟩ | ⟨a, len', cap', ss, h0, h1, h2, h3, h4, h5, h6, h7⟩
  · have : a0 = none ∧ len = 0 ∧ cap = 0 := by simpa [Value.cells] using h0
    obtain ⟨rfl, rfl, rfl⟩ := this
    exact ⟨none, 0, [], rfl, fun h => absurd rfl h, (fun a ha => by cases ha)⟩
  · have : a0 = some a ∧ len = len' ∧ cap = cap' := by simpa [Value.cells] using h0
    obtain ⟨rfl, rfl, rfl⟩ := this
    simp only [if_true] at h4
    refine ⟨some a, cap, (ss.take len).map fun n => UInt8.ofNat n.toNat, by rw [List.length_map, List.length_take]; congr 1; omega, fun _ => ⟨a, rfl⟩, fun a' ha' j s hs => ?_⟩
    cases ha'
    rw [List.getElem?_map, List.getElem?_take] at hs
    split at hs
    · cases hz : ss[j]? with
      | none => rw [hz] at hs; cases hs
      | some z =>
        rw [hz] at hs
        simp only [Option.map_some, Option.some.injEq] at hs
        have hj := (List.getElem?_eq_some_iff.1 hz).1
        have hw := u8_of (h7 z (List.mem_of_getElem? hz))
        rw [h6 j hj, List.getD_eq_getElem?_getD, hz]
        have : ((UInt8.ofNat z.toNat).toNat : Int) = z := by simp; omega
        rw [← hs, this]; rfl
    · cases hs
end
end Go.Sh
namespace Go.Proofs.YtedbbdeeofdepaaGreatDoor
theorem own : ownKnob Tryz.prog.godebug = none := by kernel_rfl
theorem rows_laid : laidOutB Tryz.prog = true := by kernel_rfl
theorem rows_maps : mapsRowed Tryz.prog = true := by kernel_rfl
theorem rows_full : ((List.range Tryz.prog.types.size).all fun t => match Tryz.prog.underlying t with | some (.slice e) => decide (0 < Tryz.prog.cellsOf e) | _ => true) = true := by kernel_rfl
end Go.Proofs.YtedbbdeeofdepaaGreatDoor
end
section
/-! A law's row: bytes as numbers. -/
namespace Go.Proofs.YtedbbdeeofdepaaGreatDoor
open Go.ChangeShapes Go.WideShapes Go.ChangeAt Go.RowKit Go.Sh
theorem u8_of {a : Int} (h : (Lit.int .u8 a).wf = true) : 0 ≤ a ∧ a < 256 := by
  simp [Lit.wf, IntKind.min, IntKind.max, IntKind.bits, IntKind.signed] at h
  omega
end Go.Proofs.YtedbbdeeofdepaaGreatDoor
end
