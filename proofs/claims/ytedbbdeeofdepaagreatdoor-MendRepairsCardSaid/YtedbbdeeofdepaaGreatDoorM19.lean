import Derived.ChangeSame
import Derived.Test.YtedbbdeeofdepaaGreatDoorProg
import Derived.ReadAgain
import Derived.ChangeMaps5
import Derived.SliceStrings
import Derived.ChangeSlices
import Derived.WalkKit
import Derived.ProofKit
import Derived.OpenShut
import Derived.Lib.SmallJoins
import Derived.Test.YtedbbdeeofdepaaGreatDoorM2
import Derived.Test.YtedbbdeeofdepaaGreatDoorM17
import Derived.Test.YtedbbdeeofdepaaGreatDoorM18
section
/-! mend: MendRepairs. -/
namespace Go.Proofs.YtedbbdeeofdepaaGreatDoor
open Go.Sh Go.RowKit
set_option linter.unusedVariables false
set_option linter.unusedSimpArgs false
set_option maxRecDepth 20000
set_option maxHeartbeats 2000000
theorem safe_hold {a : AD} {N : Nat} {f : Nat → ByteArray} (h : a.Hold N f) {j : Nat} (hj : j < N) : a.safeAt (j : Int) = (f j, 0) := by
  unfold AD.safeAt
  rw [h.on.len, if_neg (by omega), Int.toNat_natCast, h.safe j hj]
theorem cntL_congr {p q : Nat → Bool} {n : Nat} (h : ∀ i, i < n → p i = q i) : cntL p n = cntL q n := by
  unfold cntL
  rw [List.filter_congr fun i hi => h i (List.mem_range.1 hi)]
theorem cntL_zero {p : Nat → Bool} {n : Nat} (h : ∀ i, i < n → p i = false) : cntL p n = 0 := by
  unfold cntL
  rw [List.length_eq_zero_iff, List.filter_eq_nil_iff]
  intro i hi
  rw [h i (List.mem_range.1 hi)]; simp
theorem txts_repl (n : Nat) (x : Txt) : txts (List.replicate n x) ++ [.string (strB x)] = txts (List.replicate (n + 1) x) := by
  unfold txts
  rw [List.replicate_succ', List.map_append]; rfl
theorem fulT_str (x : ByteArray) : strB (fulT x) = fullB x := strB_list _
theorem repairs19_law {l l2 : List ByteArray} {p p2 : Option Addr} {c0 c2' : Nat} {w : World} (Hs : strsAt w p l) (Hq : strsAt w p2 l2) {a b n3 : Int} (ha : 0 ≤ a ∧ a ≤ 255) (hb : 0 ≤ b ∧ b ≤ 255) (h3 : 0 ≤ n3 ∧ n3 ≤ 255) :
    Ret Tryz.prog 3 #[.int .u8 a, .int .u8 b, .slice p l.length c0, .int .u8 n3, .slice p2 l2.length c2'] w (.bool true) := by
  refine ret_of (revetmentlaw19_MendRepairs_calls ?_)
  unfold revetmentlaw19_MendRepairs
  refine ⟨dec_t fun _ => shown19_end (.refl w), dec_f fun hl10 => ⟨dec_t fun _ => shown19_end (.refl w), dec_f fun hl210 => ?_⟩⟩
  refine (shown19_spec w).mono fun e w2 ⟨he2, hx2⟩ => ⟨_, he2, no rfl ?_⟩
  refine setup19 (d := 0) ha hb (by omega) hx2 fun gc gk gr N s ds k1 k2 w3 e1 e2 e3 hgeo hN hpos hMd hH hl H3 => ?_
  obtain ⟨ec, ek, er⟩ := hgeo
  have hgB : (4 ≤ gc ∧ gc ≤ 7) ∧ (1 ≤ gk ∧ gk ≤ 3) ∧ gr = 1 := by omega
  have tm : ∀ {x n : Int}, 0 ≤ x ∧ x ≤ 255 → Int.tmod (IntKind.i64.wrap x) n = x % n := fun {x n} hx => by
    rw [wrap64 x (by omega) (by omega), Int.tmod_eq_emod_of_nonneg hx.1]
  simp only [tm h3]
  obtain ⟨c, hc⟩ : ∃ c : Nat, gc = (c : Int) := ⟨gc.toNat, by omega⟩
  obtain ⟨kk, hkk⟩ : ∃ c : Nat, gk = (c : Int) := ⟨gk.toNat, by omega⟩
  have hcn : gc.toNat = c := by omega
  rw [hcn] at hl hMd H3
  have hsc : s.c = (c : Int) := by omega
  have hsk : s.k = (kk : Int) := by omega
  have hok := hMd.ok
  generalize hX : [blk k2 (rwC s c c) 30, blk k1 #[.int .i64 gc, .int .i64 gk, .int .i64 gr] 25] = X at H3
  have m1 : blk k1 #[.int .i64 gc, .int .i64 gk, .int .i64 gr] 25 ∈ X := by rw [← hX]; exact (by repeat (first | exact List.Mem.head _ | refine List.Mem.tail _ ?_))
  have m2 : blk k2 (rwC s c c) 30 ∈ X := by rw [← hX]; exact (by repeat (first | exact List.Mem.head _ | refine List.Mem.tail _ ?_))
  have c1 : ∀ {h : Kd} {w' : World} {Q : List A}, Ow h [] w w' (Q ++ X) → ∀ i v, (#[.int .i64 gc, .int .i64 gk, .int .i64 gr] : Array Value)[i]? = some v → w'.cell? ⟨k1, i, none⟩ = some v := fun h' i v hv => h'.ld (List.mem_append_right _ m1) hv
  have c2 : ∀ {h : Kd} {w' : World} {Q : List A}, Ow h [] w w' (Q ++ X) → ∀ i v, (rwC s c c)[i]? = some v → w'.cell? ⟨k2, i, none⟩ = some v := fun h' i v hv => h'.ld (List.mem_append_right _ m2) hv
  refine ⟨gc, c1 (Q := []) H3 0 _ rfl, by omega, ?_⟩
  have hrow : 0 ≤ (0 : Int) ∧ (0 : Int) < s.r := by omega
  have hlb : (List.replicate c gr).length = c := List.length_replicate
  have hbB : ∀ i, i < c → (0 : Int) < (List.replicate c gr).getD i 0 := fun i hi => by rw [repl_getD hi]; omega
  have b3 : 0 ≤ n3 % gc ∧ n3 % gc < gc := ⟨Int.emod_nonneg _ (by omega), Int.emod_lt_of_pos _ (by omega)⟩
  generalize n3 % gc = g' at b3
  obtain ⟨g, rfl⟩ : ∃ c : Nat, g' = (c : Int) := ⟨g'.toNat, by omega⟩
  simp only [Int.toNat_natCast]
  obtain ⟨hGL, hLl⟩ := goodL_dt (l := l) (c := c) (by omega)
  obtain ⟨rc, hrl, hrc, _⟩ := role_of hok hrow hsc (g := g) (by omega)
  obtain ⟨g1, g2, q1, q2, _⟩ := se_open H3
  generalize hLL : makeF (dtL l (c - 2)) = L at hGL hLl
  generalize hLr : L.getD rc [] = Lr
  have hLr64 : Lr.length = 64 := by rw [← hLr]; exact hGL.all rc (by omega)
  have hsec : ∀ j : Nat, j < kk → (sectorG s.c s.k s.r 0 j).toNat = 4 + j := fun j hj => by
    rw [sectorG_v hok hrow (by omega), Int.mul_zero]; omega
  have hNk : N = 4 + kk := by
    rw [hgB.2.2, Int.one_mul] at hN
    omega
  have hsafe : ∀ {du : List Od} {fu : Nat → Nat → ByteArray} {j : Nat}, MdH du N (fun _ => 0) fu → du.length = c → j < kk → rwT s fu 0 j c = L → ∃ pp aa, du[g]? = some (some (pp, aa)) ∧ aa.Hold N (fu g) ∧ aa.safeAt (4 + (j : Int)) = (strB Lr, 0) := fun {du fu j} hh hld hj hrw => by
    obtain ⟨pp, aa, hk, hho⟩ := hh g (by omega) rfl
    refine ⟨pp, aa, hk, hho, ?_⟩
    have := safe_hold hho (j := 4 + j) (by omega)
    rw [show ((4 + j : Nat) : Int) = 4 + (j : Int) by omega] at this
    rw [this]
    have e1 := rwT_str s fu 0 j hrl (c := c)
    rw [hrw, hrc, hsec j hj, hLr] at e1
    rw [e1]
  -- the rows with what lies
  generalize hA : (fun j : Nat => if j < l2.length then L.set rc (fulT (l2.getD j noB)) else L) = Aw
  generalize hq : (fun j : Nat => decide (j < l2.length) && decide (fullB (l2.getD j noB) ≠ strB Lr)) = q
  have hAl : ∀ j, (Aw j).length = c ∧ AllLen (Aw j) 64 := fun j => by
    rw [← hA]
    dsimp only
    split
    · exact ⟨by rw [List.length_set]; exact hLl, hGL.all.set (fulT_len _) rc⟩
    · exact ⟨hLl, hGL.all⟩
  have hAj : ∀ j, (q j = true ∧ judV (Aw j) = (1, (rc : Int)) ∧ fillF (Aw j) [(rc : Int)] = L ∧ (Aw j).set rc (L.getD rc []) = L) ∨ (q j = false ∧ Aw j = L ∧ judV (Aw j) = (0, 0)) := fun j => by
    rw [← hA, ← hq]
    dsimp only
    by_cases hj : j < l2.length
    · rw [if_pos hj, decide_eq_true hj, Bool.true_and]
      by_cases he : fullB (l2.getD j noB) = strB Lr
      · have e1 : fulT (l2.getD j noB) = Lr := by
          unfold fulT
          rw [he]
        have e2 : L.set rc (fulT (l2.getD j noB)) = L := by
          rw [e1, ← hLr]
          refine List.ext_getElem (by simp) fun t h1 h2 => ?_
          rw [List.getElem_set]
          split
          · rename_i e; subst e
            rw [List.getD_eq_getElem?_getD, List.getElem?_eq_getElem h2]; rfl
          · rfl
        rw [e2]
        exact .inr ⟨decide_eq_false (by simpa using he), rfl, judV_good hGL⟩
      · have hne : fulT (l2.getD j noB) ≠ L.getD rc [] := fun e => he (by rw [← fulT_str, e, hLr])
        obtain ⟨h1, h2⟩ := lie_found hGL (by omega) (i := rc) (by omega) (fulT_len _) hne
        exact .inl ⟨decide_eq_true he, h1, h2, set_back _⟩
    · rw [if_neg hj, decide_eq_false hj, Bool.false_and]
      exact .inr ⟨rfl, rfl, judV_good hGL⟩
  refine Ow.alloc H3 fun k63 w4 H4 => ?_
  have H4 : Ow (seK s ds (List.replicate c gr)) [] w w4 (rowP 9 1 (some k63) 0 0 (txts (List.replicate 0 Lr)) :: X) := H4.into fun Y hT hb => hb _ _ (blk_row hT rfl rfl (by decide))
  refine ⟨fun vs w' => ∃ (i : Nat) (gw : Option Nat) (cp : Nat) (du : List Od) (fu : Nat → Nat → ByteArray), vs = [.int .i64 (cntL q i : Nat), .slice (ptr gw) i cp, .int .i64 (i : Int)] ∧ i ≤ kk ∧ MdS s du (List.replicate c gr) N (i * c) (fun _ => 0) fu ∧ MdH du N (fun _ => 0) fu ∧ (∀ j : Nat, j < i → rwT s fu 0 j c = Aw j) ∧ Ow (seK s du (List.replicate c gr)) [] w w' (rowP 9 1 gw i cp (txts (List.replicate i Lr)) :: X), fun vs _ => match vs with | [_, _, .int _ i] => ((kk : Int) - i).toNat | _ => 0, ⟨0, some k63, 0, ds, fun _ _ => zeroSec, rfl, by omega, by rw [Nat.zero_mul]; exact hMd, hH, (fun j hj => by omega), H4⟩, ?_⟩
  clear H4 H3
  rintro vs w5 ⟨i, gw, cp, du, fu, rfl, hi, hMu, hHu, hru, H5⟩
  have hlu : du.length = c := by have := hMu.len; omega
  refine ⟨_, _, _, _, _, rfl, gk, c1 (Q := [_]) H5 1 _ rfl, ?_⟩
  rw [hkk]
  refine ⟨dec_t fun hlt => ?_, dec_f fun hge => ?_⟩
  · refine chk_loop (by omega) Hs H5.ext fun hl100 => ?_
    have hic : i * c ≤ 3 * 7 := Nat.mul_le_mul (by omega) (by omega)
    refine ⟨_, _, _, _, _, _, _, _, _, ⟨c2 (Q := [_]) H5 0 _ rfl, c2 (Q := [_]) H5 1 _ rfl, c2 (Q := [_]) H5 2 _ rfl, c2 (Q := [_]) H5 3 _ rfl, c2 (Q := [_]) H5 4 _ rfl⟩, ?_⟩
    have hLd := laid19_spec (c0 := c0) hl100 (row := 0) (off := (i : Int)) hsc (by omega) (fun _ _ => rfl) hrow (by omega) hMu H5 Hs
    rw [hlu, hlb] at hLd
    refine hLd.mono fun e w6 ⟨gl, cl, d6, f6, he6, hM6, hH6, hr6, ho6, H6⟩ => ⟨_, _, _, _, he6, no rfl ?_⟩
    rw [hLL] at hr6
    have hl6 : d6.length = c := by have := hM6.len; omega
    have hr6' : ∀ j : Nat, j < i → rwT s f6 0 j c = Aw j := fun j hj => by rw [ho6 j (by omega) (by omega)]; exact hru j hj
    have H6 := H6.dropX
    obtain ⟨pp, aa, hk, hho, hsf⟩ := hsafe (j := i) hH6 hl6 (by omega) hr6
    have pc : ∀ {dz : List Od} {w' : World} {Q : List A}, blks dz = blks d6 → Ow (seK s dz (List.replicate c gr)) [] w w' (Q ++ X) → w'.cell? (Addr.add ⟨g1, 0, none⟩ (g * 1)) = some (.pointer (some ⟨pp, 0, none⟩)) := fun hbz h' => by
      obtain ⟨ad, had, hcl⟩ := (se_w h').pd.get (n := g) (x := some pp) (by rw [hbz]; exact blks_get hk)
      rw [q1] at had; cases had
      exact hcl
    refine ⟨_, _, _, c2 (Q := [_]) H6 3 _ rfl, ⟨g1, 0, none⟩, q1, by omega, by omega, _, pc (Q := [_]) rfl H6, ?_⟩
    rw [wrap64 (4 + (i : Int)) (by omega) (by omega)]
    obtain ⟨F9, w09, X9, hdr⟩ := (se_w H6).drive hk
    have hSf := safe_a hdr (4 + (i : Int))
    rw [hsf] at hSf
    refine hSf.mono fun e w7 ⟨he7, hx7⟩ => ⟨_, _, he7, no rfl ?_⟩
    refine push_owN (i := Tryz.t9) (z := .string (ByteArray.mk #[])) (g := gw) (by kernel_rfl) (by kernel_rfl) (by kernel_rfl) (by kernel_rfl) (by kernel_rfl) (by kernel_rfl) (H6.quiet hx7) .head rfl (by omega) fun gw' cp' w8 H8 => ?_
    rw [txts_repl] at H8
    have hmes : ((kk : Int) - IntKind.i64.wrap ((i : Int) + 1)).toNat < ((kk : Int) - (i : Int)).toNat := by rw [wrap64 _ (by omega) (by omega)]; omega
    have hnx : IntKind.i64.wrap ((i : Int) + 1) = ((i + 1 : Nat) : Int) := by rw [wrap64 _ (by omega) (by omega)]; rfl
    have hcl := cntL_le q i
    refine ⟨dec_t fun hl2 => ?_, dec_f fun hl2 => ?_⟩
    · obtain ⟨a0, ha0, hc0⟩ := Hq.get (n := (i : Int)) (by omega) (by omega)
      rw [Int.toNat_natCast] at hc0
      refine ⟨a0, ha0, by omega, by omega, _, by rw [Int.toNat_natCast]; exact cell_ext H8.ext hc0, dec_t fun _ => shown19_end H8.ext, dec_f fun hs100 => ?_⟩
      generalize hx : l2.getD i noB = x at hc0 hs100
      refine ⟨fun w' => ∃ dz, blks dz = blks d6 ∧ Ow (seK s dz (List.replicate c gr)) [] w w' ([rowP 9 1 (some gw') (i + 1) cp' (txts (List.replicate (i + 1) Lr))] ++ X), ⟨d6, rfl, H8.drew⟩, _, _, _, fun w' ⟨dz, _, h'⟩ => c2 h' 3 _ rfl, ⟨g1, 0, none⟩, q1, by omega, by omega, _, fun w' ⟨dz, hbz, h'⟩ => pc hbz h', a0, ha0, by omega, by omega, x, fun w' ⟨dz, _, h'⟩ => (by rw [Int.toNat_natCast]; exact cell_ext h'.ext hc0), ?_⟩
      refine (full19_spec x (by omega) _).mono fun e w9 ⟨he9, hx9⟩ => ⟨_, he9, ⟨d6, rfl, H8.drew.quiet hx9⟩, ?_⟩
      obtain ⟨pp', aa', hk', hput, hM7, hH7⟩ := hM6.change hH6 (i := g) (j := 4 + i) (by omega) rfl (by omega) (fullB_size x)
      rw [hk] at hk'
      cases hk'
      rw [show ((4 + i : Nat) : Int) = 4 + (i : Int) by omega] at hput hM7 hH7
      refine (se_on (H8.drew.quiet hx9) hk fun Z hZ => change_a hZ (4 + (i : Int)) (fullB x)).mono fun e w10 ⟨he10, H10⟩ => ?_
      rw [hput] at he10
      refine ⟨_, he10, ⟨_, blks_set hk, H10⟩, no rfl ?_⟩
      refine ⟨a0, ha0, by omega, by omega, x, by rw [Int.toNat_natCast]; exact cell_ext H10.ext hc0, ?_⟩
      refine (full19_spec x (by omega) _).mono fun e w11 ⟨he11, hx11⟩ => ⟨_, he11, ?_⟩
      have H11 := H10.quiet hx11
      have hrw7 : ∀ j : Nat, j < i + 1 → rwT s (upF f6 g (4 + i) (fullB x)) 0 j c = Aw j := fun j hj => by
        have hup := rwT_up (f := f6) hok (row := 0) (off := (i : Int)) (off' := (j : Int)) hrow (by omega) (by omega) hsc hrl (fullB x)
        rw [hrc, hsec i (by omega)] at hup
        rw [hup]
        by_cases e : j = i
        · subst e
          rw [if_pos rfl, hr6, ← hA]
          show _ = if j < l2.length then _ else _
          rw [if_pos (by omega), hx]; rfl
        · rw [if_neg (by omega)]
          exact hr6' j (by omega)
      have hM8 : MdS s (d6.set g (some (pp, aa.change (4 + (i : Int)) (fullB x)))) (List.replicate c gr) N ((i + 1) * c) (fun _ => 0) (upF f6 g (4 + i) (fullB x)) := by rw [Nat.succ_mul]; exact hM7
      by_cases hqe : fullB x = strB Lr
      · have hqf : q i = false := by
          rw [← hq]
          show (decide _ && decide _) = false
          rw [hx, decide_eq_false (p := fullB x ≠ strB Lr) (by simpa using hqe), Bool.and_false]
        refine no (by rw [hqe]; simp) ⟨⟨i + 1, some gw', cp', _, _, by rw [hnx, cntL_no hqf]; rfl, by omega, hM8, hH7, hrw7, H11⟩, hmes⟩
      · have hqt : q i = true := by
          rw [← hq]
          show (decide _ && decide _) = true
          rw [hx, decide_eq_true (p := fullB x ≠ strB Lr) hqe, decide_eq_true (p := i < l2.length) (by omega)]; rfl
        refine yes ?_ ⟨⟨i + 1, some gw', cp', _, _, ?_, by omega, hM8, hH7, hrw7, H11⟩, hmes⟩
        · have : (fullB x).toList ≠ (strB Lr).toList := fun e => hqe (bytes_inj e)
          simpa using this
        · rw [hnx, cntL_yes hqt, wrap64 _ (by omega) (by omega)]; rfl
    · have hqf : q i = false := by
        rw [← hq]
        show (decide _ && decide _) = false
        rw [decide_eq_false (p := i < l2.length) (by omega), Bool.false_and]
      refine ⟨⟨i + 1, some gw', cp', d6, f6, by rw [hnx, cntL_no hqf]; rfl, by omega, by rw [Nat.succ_mul]; exact hM6, hH6, fun j hj => ?_, H8⟩, hmes⟩
      by_cases e : j = i
      · subst e
        rw [hr6, ← hA]
        show _ = if j < l2.length then _ else _
        rw [if_neg (by omega)]
      · exact hr6' j (by omega)
  obtain rfl : i = kk := by omega
  have hkc : i * c ≤ 3 * 7 := Nat.mul_le_mul (by omega) (by omega)
  -- checked, repaired, checked
  have hAok : ∀ j, OkM (Aw j) [] := fun j => ok_all (by rw [(hAl j).1]; omega) (by rw [(hAl j).1]; omega) (hAl j).2 (by omega)
  refine ⟨_, _, _, _, _, _, _, _, _, ⟨c2 (Q := [_]) H5 0 _ rfl, c2 (Q := [_]) H5 1 _ rfl, c2 (Q := [_]) H5 2 _ rfl, c2 (Q := [_]) H5 3 _ rfl, c2 (Q := [_]) H5 4 _ rfl⟩, ?_⟩
  have hCh := check19_spec (row := 0) (L := Aw) hsk hMu.may (hMu.few.mono (by omega)) H5 hrow (fun m hm => ⟨by rw [hMu.readAll hrow (off := (m : Int)) (by omega) hsc (fun _ _ => rfl) hbB, hru m hm], hAok m⟩)
  rw [hlu, hlb] at hCh
  have hc1 : cntL (fun m => decide ((judV (Aw m)).1 ≠ 0)) i = cntL q i := cntL_congr fun j _ => by
    rcases hAj j with ⟨h1, h2, _⟩ | ⟨h1, _, h2⟩
    · rw [h1, h2]; rfl
    · rw [h1, h2]; rfl
  rw [hc1] at hCh
  refine hCh.mono fun e w6 ⟨he6, H6⟩ => ⟨_, _, he6, ?_⟩
  refine ⟨_, _, _, _, _, _, _, _, _, ⟨c2 (Q := [_]) H6 0 _ rfl, c2 (Q := [_]) H6 1 _ rfl, c2 (Q := [_]) H6 2 _ rfl, c2 (Q := [_]) H6 3 _ rfl, c2 (Q := [_]) H6 4 _ rfl⟩, ?_⟩
  have hRe := repair19_spec (s := s) (bu := List.replicate c gr) (row := 0) (N := N) (M := i * c) (kk := i) (c := c) (K := fun _ => 0) (L := Aw) (G := fun _ => L) hsk hsc (by omega) (fun _ _ => rfl) hbB hrow (fun m hm => ⟨hAok m, by
    rcases hAj m with ⟨h1, h2, h3, h4⟩ | ⟨h1, h2, h3⟩
    · exact .inr ⟨rc, hrl, h2, h3, h4, by rw [hLr]; exact hLr64⟩
    · exact .inl ⟨h3, h2.symm⟩⟩) ⟨fu, hMu.mono (by omega), fun j hj => by rw [if_neg (by omega), hru j hj]⟩ H6
  rw [hlu, hlb] at hRe
  have hc2 : cntL (fun m => decide ((judV (Aw m)).1 = 1)) i = cntL q i := cntL_congr fun j _ => by
    rcases hAj j with ⟨h1, h2, _⟩ | ⟨h1, _, h2⟩
    · rw [h1, h2]; rfl
    · rw [h1, h2]; rfl
  rw [hc2] at hRe
  refine hRe.mono fun e w7 ⟨he7, H7⟩ => ⟨_, _, _, he7, ?_⟩
  obtain ⟨du7, ⟨d7, e7, hD7⟩, H7⟩ := so_open H7
  rw [e7] at H7
  obtain ⟨f7, hM7, hH7, hr7⟩ := mdD_end hD7
  have hl7 : (d7.map flushO).length = c := by have := hM7.len; omega
  generalize d7.map flushO = d8 at H7 hM7 hH7 hl7
  refine ⟨_, _, _, _, _, _, _, _, _, ⟨c2 (Q := [_]) H7 0 _ rfl, c2 (Q := [_]) H7 1 _ rfl, c2 (Q := [_]) H7 2 _ rfl, c2 (Q := [_]) H7 3 _ rfl, c2 (Q := [_]) H7 4 _ rfl⟩, ?_⟩
  have hCh2 := check19_spec (row := 0) (L := fun _ => L) hsk hM7.may (hM7.few.mono (by omega)) H7 hrow (fun m hm => ⟨by rw [hM7.readAll hrow (off := (m : Int)) (by omega) hsc (fun _ _ => rfl) hbB, hr7 m hm], hGL.ok (by omega)⟩)
  rw [hl7, hlb, cntL_zero (p := fun m => decide ((judV L).1 ≠ 0)) (fun j _ => by rw [judV_good hGL]; rfl)] at hCh2
  refine hCh2.mono fun e w8 ⟨he8, H8⟩ => ⟨_, _, he8, ?_⟩
  refine ⟨fun vs w' => ∃ t : Nat, vs = [.int .i64 (t : Int)] ∧ t ≤ i ∧ Ow (seK s d8 (List.replicate c gr)) [] w w' ([rowP 9 1 gw i cp (txts (List.replicate i Lr))] ++ X), fun vs _ => match vs with | [.int _ t] => ((i : Int) - t).toNat | _ => 0, ⟨0, rfl, by omega, H8⟩, ?_⟩
  clear H8 H7 H6 H5
  rintro vs w9 ⟨t, rfl, ht, H9⟩
  refine ⟨_, rfl, gk, c1 H9 1 _ rfl, ?_⟩
  rw [hkk]
  refine ⟨dec_t fun hlt => ?_, dec_f fun hge2 => ?_⟩
  · obtain ⟨pp, aa, hk, hho, hsf⟩ := hsafe (j := t) hH7 hl7 (by omega) (hr7 t (by omega))
    obtain ⟨ad, had, hcell⟩ := se_dcell H9 hk
    refine ⟨_, _, _, c2 H9 3 _ rfl, ad, had, by omega, by omega, _, hcell, ?_⟩
    rw [wrap64 (4 + (t : Int)) (by omega) (by omega)]
    obtain ⟨F9, w09, X9, hdr⟩ := (se_w H9).drive hk
    have hSf := safe_a hdr (4 + (t : Int))
    rw [hsf] at hSf
    refine hSf.mono fun e w10 ⟨he10, hx10⟩ => ⟨_, _, he10, ?_⟩
    have H10 := H9.quiet hx10
    obtain ⟨a1, ha1, hc1'⟩ := (T.strs H10.under (g := gw) (L := List.replicate i Lr) (n := i) (cap := cp) (by repeat (first | exact List.Mem.head _ | refine List.Mem.tail _ ?_))).1.get (n := t) (by rw [List.length_replicate]; omega)
    have e1 : (List.replicate i Lr).getD t [] = Lr := by rw [List.getD_eq_getElem?_getD, List.getElem?_replicate, if_pos (by omega)]; rfl
    rw [e1] at hc1'
    refine ⟨a1, ha1, by omega, by omega, _, by rw [Int.toNat_natCast]; exact hc1', no (by simp) ⟨⟨t + 1, by rw [wrap64 _ (by omega) (by omega)]; rfl, by omega, H10⟩, ?_⟩⟩
    show ((i : Int) - IntKind.i64.wrap ((t : Int) + 1)).toNat < ((i : Int) - (t : Int)).toNat
    rw [wrap64 _ (by omega) (by omega)]; omega
  · exact yes (by simp) (yes rfl (yes (by simp) (yes rfl (yes rfl (yes rfl ⟨rfl, H9.ext⟩)))))
end Go.Proofs.YtedbbdeeofdepaaGreatDoor
end
section
/-! A row's end, of a call that makes no more than new memory. -/
namespace Go.Sh
open Go.RowKit Go.ChangeShapes Go.WideShapes
theorem Ext.kept {W W' : World} (h : Ext W W') (may : MemPlace → Prop) : W.keptBut W' may := by
  refine ⟨h.os, h.output, fun i hi => ?_⟩
  rw [h.heap i hi]
  cases hw : W.heap[i]? with
  | none => simp
  | some o => cases o <;> simp
theorem Ext.frozen {W W' : World} (h : Ext W W') {a : Addr} (ha : a.block < W.heap.size) : W'.frozen? a = W.frozen? a := by simp only [World.frozen?, h.heap _ ha]
theorem post_ext {P : Program} {H : Type} {enc : TypeId × Value → H} {f : Func} {s : ChangeSpec} {apart fresh handsOn again : Bool} {W W' : World} {args : Array Value} {v : Value} {ds gs : List (DataW H)} {before pa pv : List MemPlace}
    (hW : DataW.Whole enc P f.params.toList s.vars apart W args.toList ds gs before)
    (hres : ∀ (b : Nat) (sp : Nat → Bool) (hd : Bool), DataW.TrodAll enc P W' b sp hd f.resultTypes.toList (v.resultList f.resultTypes.size) (s.fn H (ds ++ gs)).results [])
    (hargs : ∀ sp : Nat → Bool, (∀ p ∈ before, sp p.block = true) → DataW.TrodAll enc P W' 0 sp true f.params.toList args.toList (s.fn H (ds ++ gs)).args pa)
    (hvars : ∀ sp : Nat → Bool, (∀ p ∈ before, sp p.block = true) → DataW.TrodVars enc P W' sp s.vars (s.fn H (ds ++ gs)).vars pv)
    (hps : before = pa ++ pv) (hx : Ext W W')
    (hok : ∀ (j : Nat) (t : TypeId) (r : Value), f.resultTypes[j]? = some t → (v.resultList f.resultTypes.size)[j]? = some r → Value.okWide P W' .any 0 t r) :
    s.post enc P f apart fresh handsOn again W args v W' := by
  have hlt : ∀ p ∈ before, p.block < W.heap.size := hW.lt
  have hold : ∀ p ∈ before, (fun b => decide (b < W.heap.size)) p.block = true := fun p hp => by simpa using hlt p hp
  refine ⟨ds, gs, before, [], pa, pv, hW, hres _ _ _, hargs _ hold, hvars _ hold, World.keptBut_mono (fun p hp => ⟨hp, ?_⟩) (hx.kept (· ∈ before)), fun _ => ?_⟩
  · rw [hps, List.mem_append] at hp
    exact Or.inr hp
  · obtain ⟨_, _, _, _, _, hz, hn⟩ := hW
    refine ⟨hok, _, _, ([] ++ pa) ++ pv, ⟨[] ++ pa, pv, trodAll_append (hargs _ (fun _ _ => rfl)) (hres _ _ _), hvars _ (fun _ _ => rfl), rfl, ?_, ?_⟩, ?_⟩
    · intro b off hp
      have hb : (MemPlace.cell b off) ∈ before := by rw [hps]; simpa using hp
      rw [hx.frozen (hlt _ hb)]
      exact hz b off hb
    · intro ha
      have := hn ha
      rw [hps] at this
      simpa using this
    · intro p hp _
      rw [hps]
      simpa using hp
theorem u8_of {a : Int} (h : (Lit.int .u8 a).wf = true) : 0 ≤ a ∧ a ≤ 255 := by
  simp [Lit.wf, IntKind.min, IntKind.max, IntKind.bits, IntKind.signed] at h
  omega
theorem u16_of {a : Int} (h : (Lit.int .u16 a).wf = true) : 0 ≤ a ∧ a ≤ 65535 := by
  simp [Lit.wf, IntKind.min, IntKind.max, IntKind.bits, IntKind.signed] at h
  omega
theorem i64_of {a : Int} (h : (Lit.int .i64 a).wf = true) : -9223372036854775808 ≤ a ∧ a ≤ 9223372036854775807 := by
  simp [Lit.wf, IntKind.min, IntKind.max, IntKind.bits, IntKind.signed] at h
  omega
end Go.Sh
end
section
/-! A law's row: what its arguments tell, and that they read as they did. -/
namespace Go.Sh
open Go.ChangeShapes Go.WideShapes Go.ChangeAt Go.RowKit
set_option linter.unusedVariables false
theorem Ext.same {W W' : World} (h : Ext W W') {p : MemPlace} (hp : p.block < W.heap.size) : W.sameAt W' p := by
  cases p with
  | cell b o => show W'.cell? ⟨b, o, none⟩ = W.cell? ⟨b, o, none⟩; unfold World.cell?; rw [h.heap b hp]
  | map b => show W'.heap[b]? = W.heap[b]?; exact h.heap b hp
theorem trodAll_carry {H : Type} {enc : TypeId × Value → H} {P : Program} {W W' : World} {sp : Nat → Bool} : ∀ {ts : List TypeId} {vs : List Value} {ds : List (DataW H)} {ps : List MemPlace}, DataW.TrodAll enc P W 0 sp true ts vs ds ps → (∀ p ∈ ps, W.sameAt W' p) → DataW.TrodAll enc P W' 0 sp true ts vs ds ps
  | [], [], [], _, h, _ => h
  | _ :: _, _ :: _, _ :: _, _, ⟨p, q, ⟨n, h1⟩, h2, e⟩, hs => ⟨p, q, ⟨n, DataW.trod_carry n _ _ _ h1 fun x hx => hs x (by rw [e]; exact List.mem_append_left _ hx)⟩, trodAll_carry h2 fun x hx => hs x (by rw [e]; exact List.mem_append_right _ hx), e⟩
theorem law_post {P : Program} {H : Type} {enc : TypeId × Value → H} {f : Func} {s : ChangeSpec} {apart fresh handsOn again : Bool} {W W' : World} {args : Array Value} {ds gs : List (DataW H)} {before : List MemPlace} {tb : TypeId}
    (hl : laidOutB P = true) (hm : mapsRowed P = true) (hz : ((List.range P.types.size).all fun t => match P.underlying t with | some (.slice e) => decide (0 < P.cellsOf e) | _ => true) = true) (htp : (f.params.toList.all fun t => decide (t < P.types.size)) = true)
    (hW : DataW.Whole enc P f.params.toList s.vars apart W args.toList ds gs before) (hv : s.vars = []) (hargs : (s.fn H (ds ++ gs)).args = ds) (hres : (s.fn H (ds ++ gs)).results = [.lit (.bool true)]) (hvars : (s.fn H (ds ++ gs)).vars = [])
    (hrt : f.resultTypes = #[tb]) (htb : P.underlying tb = some .bool) (hx : Ext W W') : s.post enc P f apart fresh handsOn again W args (.bool true) W' := by
  have hlt := hW.lt
  have hW' := hW
  obtain ⟨p, q, hA, hV, rfl, hfz, hnd⟩ := hW
  rw [hv] at hV
  obtain ⟨rfl, rfl⟩ := trodVars_none hV
  rw [List.append_nil] at hW' hlt
  have hT : ∀ t ∈ f.params.toList, t < P.types.size := fun t ht => by simpa using List.all_eq_true.1 htp t ht
  refine post_ext (pa := p) (pv := []) hW' (fun _ _ _ => ?_) (fun sp hsp => ?_) (fun sp _ => ?_) (by simp) hx ?_
  · rw [hres, hrt]
    exact trodAll_cons_mk (shut_bool htb _) trodAll_mk0
  · rw [hargs]
    exact DataW.TrodAll.respare (kids_rows hl hm) (slices_full_of P hz) hT (trodAll_carry hA fun x hx' => hx.same (hlt x hx')) hsp
  · rw [hvars, hv]; rfl
  · exact ok_one hrt rfl (okWide_bool_mk htb _)
section
variable {P : Program} {H : Type} {enc : TypeId × Value → H} {w : World} {t e : TypeId} {v : Value} {d : DataW H} {ps : List MemPlace} {r : Reach} {b0 : Nat}
theorem open_strs (ht : P.underlying t = some (.slice e)) (he : P.underlying e = some .string) (hc : P.cellsOf e = 1) (hval : Value.okWide P w r b0 t v) (hd : DataW.Trod enc P w 0 (fun _ => true) true t v d ps) :
    ∃ (p : Option Addr) (c : Nat) (l : List ByteArray), v = .slice p l.length c ∧ (l ≠ [] → ∃ a, p = some a) ∧ (∀ a, p = some a → ∀ j s, l[j]? = some s → w.cell? (a.add j) = some (.string s)) ∧ ∀ s ∈ l, s.size ≤ maxLen := by
  obtain ⟨a0, len, cap, rfl⟩ := okWide_slice ht hval
  obtain ⟨fuel, hf⟩ := hd
  rcases open_strings ht he hc hf with ⟨h0, -⟩ | ⟨a, len', cap', ss, h0, h1, h2, h3, h4, h5, h6, h7⟩
  · have : a0 = none ∧ len = 0 ∧ cap = 0 := by simpa [Value.cells] using h0
    obtain ⟨rfl, rfl, rfl⟩ := this
    exact ⟨none, 0, [], rfl, fun h => absurd rfl h, (fun a ha => by cases ha), fun s hs => by cases hs⟩
  · have : a0 = some a ∧ len = len' ∧ cap = cap' := by simpa [Value.cells] using h0
    obtain ⟨rfl, rfl, rfl⟩ := this
    simp only [if_true] at h4
    refine ⟨some a, cap, ss.take len, by rw [List.length_take]; congr 1; omega, fun _ => ⟨a, rfl⟩, fun a' ha' j s hs => ?_, fun s hs => h7 s (List.mem_of_mem_take hs)⟩
    cases ha'
    rw [List.getElem?_take] at hs
    split at hs
    · have hj := (List.getElem?_eq_some_iff.1 hs).1
      rw [h6 j hj, List.getD_eq_getElem?_getD, hs]; rfl
    · cases hs
theorem open_u8s (ht : P.underlying t = some (.slice e)) (he : P.underlying e = some (.int .u8)) (hc : P.cellsOf e = 1) (hval : Value.okWide P w r b0 t v) (hd : DataW.Trod enc P w 0 (fun _ => true) true t v d ps) :
    ∃ (p : Option Addr) (c : Nat) (l : List UInt8), v = .slice p l.length c ∧ (l ≠ [] → ∃ a, p = some a) ∧ (∀ a, p = some a → ∀ j (s : UInt8), l[j]? = some s → w.cell? (a.add j) = some (.int .u8 s.toNat)) := by
  obtain ⟨a0, len, cap, rfl⟩ := okWide_slice ht hval
  obtain ⟨fuel, hf⟩ := hd
  rcases open_ints ht he hc hf with ⟨h0, -⟩ | ⟨a, len', cap', ss, h0, h1, h2, h3, h4, h5, h6, h7⟩
  · have : a0 = none ∧ len = 0 ∧ cap = 0 := by simpa [Value.cells] using h0
    obtain ⟨rfl, rfl, rfl⟩ := this
    exact ⟨none, 0, [], rfl, fun h => absurd rfl h, (fun a ha => by cases ha)⟩
  · have : a0 = some a ∧ len = len' ∧ cap = cap' := by simpa [Value.cells] using h0
    obtain ⟨rfl, rfl, rfl⟩ := this
    simp only [if_true] at h4
    refine ⟨some a, cap, (ss.take len).map fun n => UInt8.ofNat n.toNat, by rw [List.length_map, List.length_take]; congr 1; omega, fun _ => ⟨a, rfl⟩, fun a' ha' j s hs => ?_⟩
    cases ha'
    rw [List.getElem?_map, List.getElem?_take] at hs
    split at hs
    · cases hz : ss[j]? with
      | none => rw [hz] at hs; cases hs
      | some z =>
        rw [hz] at hs
        simp only [Option.map_some, Option.some.injEq] at hs
        have hj := (List.getElem?_eq_some_iff.1 hz).1
        have hw := u8_of (h7 z (List.mem_of_getElem? hz))
        rw [h6 j hj, List.getD_eq_getElem?_getD, hz]
        have : ((UInt8.ofNat z.toNat).toNat : Int) = z := by simp; omega
        rw [← hs, this]; rfl
    · cases hs
end
end Go.Sh
namespace Go.Proofs.YtedbbdeeofdepaaGreatDoor
theorem own : ownKnob Tryz.prog.godebug = none := by kernel_rfl
theorem rows_laid : laidOutB Tryz.prog = true := by kernel_rfl
theorem rows_maps : mapsRowed Tryz.prog = true := by kernel_rfl
theorem rows_full : ((List.range Tryz.prog.types.size).all fun t => match Tryz.prog.underlying t with | some (.slice e) => decide (0 < Tryz.prog.cellsOf e) | _ => true) = true := by kernel_rfl
end Go.Proofs.YtedbbdeeofdepaaGreatDoor
end
section
/-! A law's row: bytes as numbers. -/
namespace Go.Proofs.YtedbbdeeofdepaaGreatDoor
open Go.ChangeShapes Go.WideShapes Go.ChangeAt Go.RowKit Go.Sh
theorem u8_of {a : Int} (h : (Lit.int .u8 a).wf = true) : 0 ≤ a ∧ a < 256 := by
  simp [Lit.wf, IntKind.min, IntKind.max, IntKind.bits, IntKind.signed] at h
  omega
end Go.Proofs.YtedbbdeeofdepaaGreatDoor
end
