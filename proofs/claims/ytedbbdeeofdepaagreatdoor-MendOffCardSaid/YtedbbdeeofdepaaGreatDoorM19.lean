import Derived.ChangeSame
import Derived.Test.YtedbbdeeofdepaaGreatDoorProg
import Derived.ReadAgain
import Derived.ChangeMaps5
import Derived.SliceStrings
import Derived.ChangeSlices
import Derived.WalkKit
import Derived.ProofKit
import Derived.OpenShut
import Derived.Lib.SmallJoins
import Derived.Test.YtedbbdeeofdepaaGreatDoorM2
import Derived.Test.YtedbbdeeofdepaaGreatDoorM17
import Derived.Test.YtedbbdeeofdepaaGreatDoorM18
section
/-! mend: MendOff. -/
namespace Go.Proofs.YtedbbdeeofdepaaGreatDoor
open Go.Sh Go.RowKit
set_option linter.unusedVariables false
set_option linter.unusedSimpArgs false
set_option maxRecDepth 20000
set_option maxHeartbeats 2000000
theorem any_one {s : RwS} {ds : List Od} {bu : List Int} {N M g p : Nat} {K : Nat → Nat} {f : Nat → Nat → ByteArray} {a : AD} (h : MdS s ds bu N M K f) (hK : ∀ i, i < ds.length → i ≠ g → K i ≠ 2) (hk : ds[g]? = some (some (p, a))) : ds.any offO = (a.flush1 == 42) := by
  obtain ⟨hg, hge⟩ := List.getElem?_eq_some_iff.1 hk
  cases hb : (a.flush1 == 42) with
  | true => exact List.any_eq_true.2 ⟨_, List.mem_of_getElem? hk, hb⟩
  | false =>
    rw [Bool.eq_false_iff]
    intro ht
    obtain ⟨y, hy, hs⟩ := List.any_eq_true.1 ht
    obtain ⟨i, hi, rfl⟩ := List.getElem_of_mem hy
    by_cases e : i = g
    · subst e
      rw [hge] at hs
      have : (a.flush1 == 42) = true := hs
      rw [hb] at this
      cases this
    · rcases h.co i hi with ⟨_, p', a', h2, h3⟩ | ⟨_, h2⟩ | ⟨h1, _⟩
      · rw [List.getElem?_eq_getElem hi, Option.some_inj] at h2
        rw [h2] at hs
        have : (a'.flush1 == 42) = true := hs
        rw [h3.on.flush1] at this
        cases this
      · rw [List.getElem?_eq_getElem hi, Option.some_inj] at h2
        rw [h2] at hs
        cases hs
      · exact hK i hi e h1
theorem crash_len (a : AD) (keep : List UInt8) : (a.crash keep).safe.length = a.safe.length := by
  show (keptFrom _ _ 0 0 a.safe).length = _
  rw [keptFrom_len]
theorem off19_law {l : List ByteArray} {p : Option Addr} {c0 : Nat} {w : World} (Hs : strsAt w p l) {a b n3 n4 : Int} (ha : 0 ≤ a ∧ a ≤ 255) (hb : 0 ≤ b ∧ b ≤ 255) (h3 : 0 ≤ n3 ∧ n3 ≤ 255) (h4 : 0 ≤ n4 ∧ n4 ≤ 255) {keep : List UInt8} {pq : Option Addr} {cq : Nat} (Hq : bytesAt w pq keep) :
    Ret Tryz.prog 6 #[.int .u8 a, .int .u8 b, .slice p l.length c0, .int .u8 n3, .int .u8 n4, .slice pq keep.length cq] w (.bool true) := by
  refine ret_of (revetmentlaw19_MendOff_calls ?_)
  unfold revetmentlaw19_MendOff
  refine ⟨dec_t fun _ => shown19_end (.refl w), dec_f fun hl10 => ⟨dec_t fun _ => shown19_end (.refl w), dec_f fun hk50 => ?_⟩⟩
  refine (shown19_spec w).mono fun e w2 ⟨he2, hx2⟩ => ⟨_, he2, no rfl ?_⟩
  refine chk_loop (by omega) Hs hx2 fun hl100 => ?_
  refine setup19 (d := 0) ha hb (by omega) hx2 fun gc gk gr N s ds k1 k2 w3 e1 e2 e3 hgeo hN hpos hMd hH hl H3 => ?_
  obtain ⟨ec, ek, er⟩ := hgeo
  have hgB : (4 ≤ gc ∧ gc ≤ 7) ∧ (1 ≤ gk ∧ gk ≤ 3) ∧ gr = 1 := by omega
  have tm : ∀ {x n : Int}, 0 ≤ x ∧ x ≤ 255 → Int.tmod (IntKind.i64.wrap x) n = x % n := fun {x n} hx => by
    rw [wrap64 x (by omega) (by omega), Int.tmod_eq_emod_of_nonneg hx.1]
  simp only [tm h3, tm h4]
  obtain ⟨c, hc⟩ : ∃ c : Nat, gc = (c : Int) := ⟨gc.toNat, by omega⟩
  obtain ⟨kk, hkk⟩ : ∃ c : Nat, gk = (c : Int) := ⟨gk.toNat, by omega⟩
  have hcn : gc.toNat = c := by omega
  rw [hcn] at hl hMd H3
  have hsc : s.c = (c : Int) := by omega
  have hsk : s.k = (kk : Int) := by omega
  have hok := hMd.ok
  generalize hX : [blk k2 (rwC s c c) 30, blk k1 #[.int .i64 gc, .int .i64 gk, .int .i64 gr] 25] = X at H3
  have m1 : blk k1 #[.int .i64 gc, .int .i64 gk, .int .i64 gr] 25 ∈ X := by rw [← hX]; exact (by repeat (first | exact List.Mem.head _ | refine List.Mem.tail _ ?_))
  have m2 : blk k2 (rwC s c c) 30 ∈ X := by rw [← hX]; exact (by repeat (first | exact List.Mem.head _ | refine List.Mem.tail _ ?_))
  have c1 : ∀ {h : Kd} {w' : World} {Q : List A}, Ow h [] w w' (Q ++ X) → ∀ i v, (#[.int .i64 gc, .int .i64 gk, .int .i64 gr] : Array Value)[i]? = some v → w'.cell? ⟨k1, i, none⟩ = some v := fun h' i v hv => h'.ld (List.mem_append_right _ m1) hv
  have c2 : ∀ {h : Kd} {w' : World} {Q : List A}, Ow h [] w w' (Q ++ X) → ∀ i v, (rwC s c c)[i]? = some v → w'.cell? ⟨k2, i, none⟩ = some v := fun h' i v hv => h'.ld (List.mem_append_right _ m2) hv
  have hrow : 0 ≤ (0 : Int) ∧ (0 : Int) < s.r := by omega
  have hlb : (List.replicate c gr).length = c := List.length_replicate
  refine lay_loop (c0 := c0) (R := fun v w' => v = Value.bool true ∧ Ext w w') hl100 hsc hsk hkk hlb hrow hMd hH H3 Hs m1 m2 fun du fu w4 hMu hHu hru H4 => ?_
  obtain ⟨hGL, hLl⟩ := goodL_dt (l := l) (c := c) (by omega)
  have b3 : 0 ≤ n3 % gc ∧ n3 % gc < gc := ⟨Int.emod_nonneg _ (by omega), Int.emod_lt_of_pos _ (by omega)⟩
  have b4 : 0 ≤ n4 % 6 ∧ n4 % 6 < 6 := ⟨Int.emod_nonneg _ (by omega), Int.emod_lt_of_pos _ (by omega)⟩
  refine ⟨gc, c1 (Q := []) H4 0 _ rfl, by omega, ?_⟩
  obtain ⟨g1, g2, q1, q2, _⟩ := se_open H4
  have hlu : du.length = c := by have := hMu.len; omega
  generalize n3 % gc = g' at b3
  generalize n4 % 6 = P' at b4
  obtain ⟨g, rfl⟩ : ∃ c : Nat, g' = (c : Int) := ⟨g'.toNat, by omega⟩
  obtain ⟨P, rfl⟩ : ∃ c : Nat, P' = (c : Int) := ⟨P'.toNat, by omega⟩
  simp only [Int.toNat_natCast]
  have hrk : 1 ≤ gr * gk ∧ gr * gk ≤ 12 := by
    refine ⟨hpos, ?_⟩
    have := Int.mul_le_mul (show gr ≤ 1 by omega) hgB.2.1.2 (by omega) (by omega); omega
  refine ⟨fun w' => ∃ h, Ow h [] w w' X, ⟨_, H4.drew⟩, _, _, _, fun w' ⟨h, h'⟩ => c2 (Q := []) h' 3 _ rfl, gr, fun w' ⟨h, h'⟩ => c1 (Q := []) h' 2 _ rfl, gk, fun w' ⟨h, h'⟩ => c1 (Q := []) h' 1 _ rfl, ?_⟩
  rw [wrap64 (gr * gk) (by omega) (by omega), wrap64 (4 + gr * gk) (by omega) (by omega), ← hN]
  refine Ow.newD H4.drew (by omega) fun q w6 H6 => ⟨_, rfl, ⟨_, H6⟩, ⟨g1, 0, none⟩, q1, by omega, by omega, ?_⟩
  refine se_new H6 q1 (by omega) fun w7 H7 => ?_
  refine ⟨_, _, _, c2 (Q := []) H7 4 _ rfl, ⟨g2, 0, none⟩, q2, by omega, by omega, ?_⟩
  refine se_bu H7 q2 (by omega) fun w8 H8 => ?_
  generalize hbu1 : (List.replicate c gr).set g 0 = bu1 at H8
  have hlb1 : bu1.length = c := by rw [← hbu1, List.length_set]; exact hlb
  have hget1 : ∀ i, i < c → bu1.getD i 0 = if i = g then 0 else gr := fun i hi => by
    rw [← hbu1, List.getD_eq_getElem?_getD, List.getElem?_set]
    by_cases e : g = i
    · rw [if_pos e, if_pos (by omega), if_pos e.symm]; rfl
    · rw [if_neg e, if_neg (fun h => e h.symm), List.getElem?_replicate, if_pos hi]; rfl
  generalize hd2 : du.set g (some (q, AD.new N)) = d2 at H8
  have hk2 : d2[g]? = some (some (q, AD.new N)) := by rw [← hd2]; exact List.getElem?_set_self (by omega)
  have pc : ∀ {dz : List Od} {w' : World}, blks dz = blks d2 → Ow (seK s dz bu1) [] w w' X → w'.cell? (Addr.add ⟨g1, 0, none⟩ (g * 1)) = some (.pointer (some ⟨q, 0, none⟩)) := fun hbz h' => by
    obtain ⟨ad, had, hcl⟩ := (se_w h').pd.get (n := g) (x := some q) (by rw [hbz]; exact blks_get hk2)
    rw [q1] at had; cases had
    exact hcl
  refine ⟨_, _, _, c2 (Q := []) H8 3 _ rfl, ⟨g1, 0, none⟩, q1, by omega, by omega, _, pc rfl H8, no rfl ?_⟩
  refine ⟨_, _, _, c2 (Q := []) H8 3 _ rfl, ⟨g1, 0, none⟩, q1, by omega, by omega, _, pc rfl H8, ?_⟩
  refine (se_on H8 hk2 fun Z hZ => off_a hZ (P : Int) (by omega)).mono fun e w9 ⟨he9, H9⟩ => ⟨he9, ?_⟩
  have hb3 := blks_set (b := (AD.new N).setOff (P : Int)) hk2
  have hPw : ((AD.new N).setOff (P : Int)).Pw P N 0 := ⟨rfl, by show some ((P : Int).toNat) = some P; rw [Int.toNat_natCast], List.length_replicate, few_new N 0⟩
  have hM2 := hMu.put (i := g) (by omega) (y := some (q, (AD.new N).setOff (P : Int))) (k := 2) (g := fun _ => zeroSec) (.inr (.inr ⟨rfl, q, _, rfl, hPw.len, hPw.few.mono (by omega)⟩))
  have hd3 : d2.set g (some (q, (AD.new N).setOff (P : Int))) = du.set g (some (q, (AD.new N).setOff (P : Int))) := by rw [← hd2, List.set_set]
  rw [hd3] at H9 hb3
  have hk3 : (du.set g (some (q, (AD.new N).setOff (P : Int))))[g]? = some (some (q, (AD.new N).setOff (P : Int))) := List.getElem?_set_self (by omega)
  generalize hf2 : (fun j => if j = g then (fun _ => zeroSec) else fu j) = f2 at hM2
  generalize hK2 : (fun j => if j = g then 2 else (fun _ => 0) j) = K2 at hM2
  have hM2 := hM2.numbers (bu' := bu1) (by omega)
  generalize du.set g (some (q, (AD.new N).setOff (P : Int))) = d3 at H9 hb3 hM2 hk3
  generalize (AD.new N).setOff (P : Int) = a3 at hk3 hPw
  have hl3 : d3.length = c := by have := hM2.len; omega
  have hK2v : ∀ j, K2 j = if j = g then 2 else 0 := fun j => by rw [← hK2]
  have hK2u : ∀ i, i < c → K2 i = 2 → bu1.getD i 0 ≤ 0 := fun i hi h => by
    by_cases e : i = g
    · rw [hget1 i hi, if_pos e]; omega
    · rw [hK2v, if_neg e] at h; cases h
  obtain ⟨r, hr, hrc, hro⟩ := role_of hok hrow hsc (g := g) (by omega)
  have hcolB : ∀ i : Nat, i < c → (colR s 0 i).toNat < c := fun i hi => by have := (colR_nat hok hrow (role := (i : Int)) (by omega)).2; omega
  have hinj : ∀ i j : Nat, i < c → j < c → (colR s 0 i).toNat = (colR s 0 j).toNat → i = j := fun i j hi hj h => col_role hok hrow hsc hi hj h
  have hW : ∀ i, i < c → lostK s bu1 K2 0 i = decide (i = r) := fun i hi => by
    unfold lostK
    rw [hget1 _ (hcolB i hi), hK2v]
    by_cases e : i = r
    · subst e
      rw [hrc, if_pos rfl, decide_eq_true (Int.le_refl 0), Bool.true_or, decide_eq_true rfl]
    · have n1 : (colR s 0 i).toNat ≠ g := fun h => e (hinj i r hi hr (by omega))
      rw [if_neg n1, if_neg n1, decide_eq_false (by omega), decide_eq_false (by decide), decide_eq_false e]; rfl
  have hrm : (r : Int) ∈ misL (lostK s bu1 K2 0) c := misL_mem.2 ⟨r, rfl, hr, by rw [hW r hr]; exact decide_eq_true rfl⟩
  have happ : appR (misL (lostK s bu1 K2 0) c) r = misL (lostK s bu1 K2 0) c := if_pos hrm
  have hle1 : (misL (lostK s bu1 K2 0) c).length = 1 := by
    have h1 : (misL (lostK s bu1 K2 0) c).length ≤ 1 := misL_most (S := [g]) hinj fun i hi hp => by
      rw [hW i hi] at hp
      have : i = r := of_decide_eq_true hp
      rw [this, hrc]; simp
    have h2 := List.length_pos_of_mem hrm
    omega
  have hLg : ∀ m, m < kk → GoodL (makeF (dtL l (c - 2))) 64 ∧ (makeF (dtL l (c - 2))).length = c ∧ ∀ i, i < c → i ≠ r → lostK s bu1 K2 0 i = false → (rwT s f2 0 m c).getD i [] = (makeF (dtL l (c - 2))).getD i [] := fun m hm => by
    refine ⟨hGL, hLl, fun i hi hne hlo => ?_⟩
    have n1 : (colR s 0 i).toNat ≠ g := fun e => hne (hinj i r hi hr (by omega))
    have e1 : f2 (colR s 0 i).toNat = fu (colR s 0 i).toNat := by
      rw [← hf2]
      simp only [n1, if_false]
    rw [rwT_get _ _ _ _ hi, e1, ← rwT_get s fu 0 m hi, hru m hm]
  have hkc : kk * c ≤ 3 * 7 := Nat.mul_le_mul (by omega) (by omega)
  refine ⟨_, _, _, _, _, _, _, _, _, ⟨c2 (Q := []) H9 0 _ rfl, c2 (Q := []) H9 1 _ rfl, c2 (Q := []) H9 2 _ rfl, c2 (Q := []) H9 3 _ rfl, c2 (Q := []) H9 4 _ rfl⟩, ?_⟩
  -- it is rebuilt, as far as the power goes
  have h64 : (strB ((makeF (dtL l (c - 2))).getD r [])).size = 64 := by rw [strB_size]; exact hGL.all r (by omega)
  generalize hY : strB ((makeF (dtL l (c - 2))).getD r []) = Y at h64
  have hwr : ∀ {dz : List Od} {M m : Nat} {az : AD}, MdS s dz bu1 N M K2 f2 → m < kk → dz[g]? = some (some (q, az)) → az.dead = false → writeE s dz bu1 0 m r Y = az.put (sectorG s.c s.k s.r 0 m) Y ∧ writeD s dz bu1 0 m r Y = dz.set g (some (q, az.write (sectorG s.c s.k s.r 0 m) Y)) := fun {dz M m az} hM hm hk hdd => by
    have hat : atE s dz bu1 0 m = 0 := by unfold atE; rw [if_pos hM.may, if_neg (by omega)]
    have ht : thereO dz g = some (q, az) := by
      unfold thereO
      rw [List.getD_eq_getElem?_getD, hk]
      show (if az.dead = true then none else some (q, az)) = _
      rw [if_neg (by rw [hdd]; decide)]
    refine ⟨?_, ?_⟩
    · unfold writeE
      rw [if_neg (by omega), if_neg (by omega), hrc, ht]
    · unfold writeD
      rw [if_neg (by omega), if_neg (by omega), hrc, ht]
  have hsec : ∀ m : Nat, m < kk → 0 ≤ sectorG s.c s.k s.r 0 m ∧ sectorG s.c s.k s.r 0 m < (N : Int) := fun m hm => by
    have := sectorG_in hok hrow (off := (m : Int)) (by omega)
    have hz := hM2.size
    omega
  have hread : ∀ {dz : List Od} {M m : Nat}, MdS s dz bu1 N M K2 f2 → m < kk → ∃ Yl, readR s dz bu1 0 m = .ok (Yl, misL (lostK s bu1 K2 0) c) ∧ OkM Yl (appR (misL (lostK s bu1 K2 0) c) r) ∧ fillF Yl (appR (misL (lostK s bu1 K2 0) c) r) = makeF (dtL l (c - 2)) := fun {dz M m} hM hm => by
    obtain ⟨Yl, h1, h2, h3⟩ := read_good hM hsc hK2u hrow hr (m := m) (by omega) (hLg m hm)
    exact ⟨Yl, h1, h2, h3 (by rw [happ]; omega)⟩
  have hRb := rebuild_spec (s := s) (bu := bu1) (row := 0) (col := (g : Int)) (kk := kk) (n := c) (N := min P kk) (r := (r : Int)) (eZ := if P ≤ kk then 42 else 0) (X := X) (w0 := w) (w := w9)
    (D := fun m dz => MdS s dz bu1 N (kk * c + m) K2 f2 ∧ blks dz = blks d2 ∧ ∃ az, dz[g]? = some (some (q, az)) ∧ az.Pw (P - m) N m)
    (Z := fun dz => MdS s dz bu1 N (kk * c + kk) K2 f2 ∧ blks dz = blks d2 ∧ ∃ az, dz[g]? = some (some (q, az)))
    hsk (Nat.min_le_right _ _) (so_shut ⟨hM2, hb3, a3, hk3, hPw⟩ H9) ?_ hrow (by omega) ?_ hro (by omega) ?_ ?_ ?_
  rotate_left
  · rintro m dz hm ⟨h1, _⟩
    exact ⟨by have := h1.len; omega, h1.may, h1.few.mono (by omega)⟩
  · rintro dz ⟨_, _, az, h1, h2⟩
    exact ⟨q, az, by rw [Int.toNat_natCast]; exact h1, h2.dead⟩
  · rintro m dz hm ⟨h1, hbz, az, h2, h3⟩
    obtain ⟨Yl, hR, hO, hfil⟩ := hread h1 (m := m) (by omega)
    have hPm : P - m = (P - (m + 1)) + 1 := by omega
    rw [hPm] at h3
    have hput : az.put (sectorG s.c s.k s.r 0 m) Y = 0 := by rw [h3.put (hsec m (by omega)) h64, if_neg (by omega)]
    obtain ⟨hwE, hwD⟩ := hwr h1 (m := m) (by omega) h2 h3.dead
    refine ⟨Yl, _, hR, hO, by rw [happ]; omega, ?_⟩
    rw [hfil, Int.toNat_natCast, hY]
    refine ⟨by rw [hwE, hput]; decide, ?_⟩
    have hgl : g < dz.length := by have := h1.len; omega
    have h3' := h3.write (hsec m (by omega)) h64
    rw [hwD]
    refine ⟨?_, (blks_set h2).trans hbz, _, List.getElem?_set_self hgl, h3'⟩
    have hp := (h1.mono (Nat.le_succ _)).put (i := g) hgl (y := some (q, az.write (sectorG s.c s.k s.r 0 m) Y)) (k := 2) (g := f2 g) (.inr (.inr ⟨rfl, q, _, rfl, h3'.len, h3'.few.mono (by omega)⟩))
    exact hp.congr (fun i hi => by by_cases e : i = g <;> simp [e, hK2v]) (fun i hi _ j hj => by by_cases e : i = g <;> simp [e])
  · intro hlt
    have hPk : P < kk := by omega
    have hmin : min P kk = P := by omega
    rw [if_pos (by omega), hmin]
    refine ⟨by decide, ?_⟩
    rintro dz ⟨h1, hbz, az, h2, h3⟩
    obtain ⟨Yl, hR, hO, hfil⟩ := hread h1 (m := P) (by omega)
    obtain ⟨hwE, hwD⟩ := hwr h1 (m := P) (by omega) h2 h3.dead
    have hput : az.put (sectorG s.c s.k s.r 0 P) Y = 42 := by rw [h3.put (hsec P (by omega)) h64, if_pos (by omega)]
    refine ⟨Yl, _, hR, hO, .inr ⟨by rw [happ]; omega, rfl, ?_, ?_⟩⟩
    · rw [hfil, Int.toNat_natCast, hY, hwE, hput]
    · rw [hfil, Int.toNat_natCast, hY, hwD]
      have hsame : az.write (sectorG s.c s.k s.r 0 P) Y = az := by unfold AD.write; rw [if_pos (by rw [hput]; decide)]
      rw [hsame, set_get_same h2]
      exact ⟨h1.mono (by omega), hbz, az, h2⟩
  · intro hmk dz hDz
    have hkP : kk ≤ P := by omega
    obtain ⟨h1, hbz, az, h2, h3⟩ := hDz
    have hoff := any_one h1 (g := g) (fun i hi e => by rw [hK2v, if_neg e]; decide) h2
    rw [hoff, h3.flush1]
    refine ⟨?_, h1.flush.1, (flush_blks dz).trans hbz, az.flush, flushO_get h2⟩
    by_cases e : P = kk
    · rw [if_pos (show P - kk = 0 by omega), if_pos (show P ≤ kk by omega)]; rfl
    · rw [if_neg (show ¬ (P - kk = 0) by omega), if_neg (show ¬ (P ≤ kk) by omega)]; rfl
  rw [hlb1] at hRb
  refine hRb.mono fun e w10 ⟨he10, H10⟩ => ⟨_, he10, ?_⟩
  obtain ⟨d4, ⟨hM4, hb4, a4, hk4⟩, H10⟩ := so_open H10
  have hl4 : d4.length = c := by have := hM4.len; omega
  refine Join.intro fun J hJ => ?_
  have hJ : J [] w10 := by
    refine hJ _ _ ⟨rfl, ?_⟩
    refine ⟨_, _, _, c2 (Q := []) H10 3 _ rfl, ⟨g1, 0, none⟩, q1, by omega, by omega, _, pc hb4 H10, ?_⟩
    refine (se_on H10 hk4 fun Z hZ => crash_a hZ ((hM4.all hk4).2.mono (by omega)) keep pq cq (by omega) fun w1 hT => Hq.ext hT.chg.ext).mono fun e w11 ⟨he11, H11⟩ => ⟨he11, ?_⟩
    have hM5 := hM4.put (i := g) (by omega) (y := some (q, a4.crash keep)) (k := 2) (g := f2 g) (.inr (.inr ⟨rfl, q, _, rfl, (crash_len a4 keep).trans (hM4.all hk4).1, fun _ => Nat.zero_le _⟩))
    have hM5 := hM5.congr (K' := K2) (f' := f2) (fun i hi => by by_cases e : i = g <;> simp [e, hK2v]) (fun i hi _ j hj => by by_cases e : i = g <;> simp [e])
    generalize d4.set g (some (q, a4.crash keep)) = d5 at hM5 H11
    have hl5 : d5.length = c := by have := hM5.len; omega
    have hfil : ∀ m : Nat, m < kk → filR s d5 bu1 0 m = .ok (makeF (dtL l (c - 2)), misL (lostK s bu1 K2 0) c) := fun m hm => by
      rw [filR_of hM5.may hrow (off := (m : Int)) (by omega) hsc hLl hGL (lostK s bu1 K2 0) fun i hi => ?_, if_pos (by omega)]
      rw [hM5.secs hrow (off := (m : Int)) (by omega) hsc hK2u i hi]
      cases hlo : lostK s bu1 K2 0 i with
      | true => rfl
      | false =>
        simp only [Bool.false_eq_true, if_false]
        rw [(hLg m hm).2.2 i hi (fun e => by rw [hW i hi, decide_eq_true e] at hlo; cases hlo) hlo]
    refine ⟨fun vs w' => ∃ i : Nat, vs = [.int .i64 (i : Int)] ∧ i ≤ kk ∧ Ow (seK s d5 bu1) [] w w' X, fun vs _ => match vs with | [.int _ i] => ((kk : Int) - i).toNat | _ => 0, ⟨0, rfl, by omega, H11⟩, ?_⟩
    clear H11 H10 H9 H8 H7 H4 H3
    rintro vs w13 ⟨i, rfl, hi, H13⟩
    refine ⟨_, rfl, gk, c1 (Q := []) H13 1 _ rfl, dec_t fun hlt => ?_, dec_f fun hge => ⟨trivial, H13.ext⟩⟩
    refine ⟨_, _, _, _, _, _, _, _, _, ⟨c2 (Q := []) H13 0 _ rfl, c2 (Q := []) H13 1 _ rfl, c2 (Q := []) H13 2 _ rfl, c2 (Q := []) H13 3 _ rfl, c2 (Q := []) H13 4 _ rfl⟩, ?_⟩
    have hFi := filled16_spec (se_w H13) (by omega) (hM5.few.mono (by omega)) 0 i
    rw [hl5, hlb1, hfil i (by omega)] at hFi
    refine hFi.mono fun e w14 ⟨v, he14, gx, cx, gl, cl', hv, hT14⟩ => ?_
    subst hv
    have hT14 : T [] w13 w14 [rowP 9 1 gx (makeF (dtL l (c - 2))).length cx (txts (makeF (dtL l (c - 2)))), rowP 3 1 gl (misL (lostK s bu1 K2 0) c).length cl' (intsI (misL (lostK s bu1 K2 0) c))] := hT14
    have H14 := Ow.new H13 hT14
    rw [hLl] at H14
    refine ⟨_, _, _, _, _, _, _, he14, no rfl (no (by show (((misL (lostK s bu1 K2 0) c).length : Int) != 1) = false; rw [hle1]; rfl) ?_)⟩
    have hs14 := T.strs H14.under (g := gx) (L := makeF (dtL l (c - 2))) (n := c) (cap := cx) (by repeat (first | exact List.Mem.head _ | refine List.Mem.tail _ ?_))
    have hcap : (makeF (dtL l (c - 2))).length ≤ cx := by
      have := (H14.under.says (x := rowP 9 1 gx c cx (txts (makeF (dtL l (c - 2))))) (by repeat (first | exact List.Mem.head _ | refine List.Mem.tail _ ?_))).2.1
      omega
    refine (goodR_spec hGL.short (by omega) (by omega) hcap hs14.1).mono fun e w15 ⟨he15, hx15⟩ => ⟨_, he15, no (by rw [hGL.goodF]; rfl) ?_⟩
    show LoopP _ _
    rw [show ((makeF (dtL l (c - 2))).length : Int) = (c : Int) by omega]
    refine cmp_loop (R := fun v w' => v = Value.bool true ∧ Ext w w') (X := rowP 3 1 gl (misL (lostK s bu1 K2 0) c).length cl' (intsI (misL (lostK s bu1 K2 0) c)) :: X) hl100 hc (by omega) (H14.quiet hx15) Hs (List.mem_cons_of_mem _ m1) fun w16 H16 => ⟨⟨i + 1, by rw [wrap64 _ (by omega) (by omega)]; rfl, by omega, H16.dropX.dropX⟩, ?_⟩
    show ((kk : Int) - IntKind.i64.wrap ((i : Int) + 1)).toNat < ((kk : Int) - (i : Int)).toNat
    rw [wrap64 _ (by omega) (by omega)]; omega
  refine ⟨gk, c1 (Q := []) H10 1 _ rfl, ?_⟩
  by_cases hPk : P ≤ kk
  · rw [if_pos hPk, decide_eq_false (show ¬ ((P : Int) > gk) by omega)]
    exact no rfl (yes rfl (no rfl hJ))
  · rw [if_neg hPk, decide_eq_true (show (P : Int) > gk by omega)]
    exact no rfl (no rfl hJ)
end Go.Proofs.YtedbbdeeofdepaaGreatDoor
end
section
/-! A row's end, of a call that makes no more than new memory. -/
namespace Go.Sh
open Go.RowKit Go.ChangeShapes Go.WideShapes
theorem Ext.kept {W W' : World} (h : Ext W W') (may : MemPlace → Prop) : W.keptBut W' may := by
  refine ⟨h.os, h.output, fun i hi => ?_⟩
  rw [h.heap i hi]
  cases hw : W.heap[i]? with
  | none => simp
  | some o => cases o <;> simp
theorem Ext.frozen {W W' : World} (h : Ext W W') {a : Addr} (ha : a.block < W.heap.size) : W'.frozen? a = W.frozen? a := by simp only [World.frozen?, h.heap _ ha]
theorem post_ext {P : Program} {H : Type} {enc : TypeId × Value → H} {f : Func} {s : ChangeSpec} {apart fresh handsOn again : Bool} {W W' : World} {args : Array Value} {v : Value} {ds gs : List (DataW H)} {before pa pv : List MemPlace}
    (hW : DataW.Whole enc P f.params.toList s.vars apart W args.toList ds gs before)
    (hres : ∀ (b : Nat) (sp : Nat → Bool) (hd : Bool), DataW.TrodAll enc P W' b sp hd f.resultTypes.toList (v.resultList f.resultTypes.size) (s.fn H (ds ++ gs)).results [])
    (hargs : ∀ sp : Nat → Bool, (∀ p ∈ before, sp p.block = true) → DataW.TrodAll enc P W' 0 sp true f.params.toList args.toList (s.fn H (ds ++ gs)).args pa)
    (hvars : ∀ sp : Nat → Bool, (∀ p ∈ before, sp p.block = true) → DataW.TrodVars enc P W' sp s.vars (s.fn H (ds ++ gs)).vars pv)
    (hps : before = pa ++ pv) (hx : Ext W W')
    (hok : ∀ (j : Nat) (t : TypeId) (r : Value), f.resultTypes[j]? = some t → (v.resultList f.resultTypes.size)[j]? = some r → Value.okWide P W' .any 0 t r) :
    s.post enc P f apart fresh handsOn again W args v W' := by
  have hlt : ∀ p ∈ before, p.block < W.heap.size := hW.lt
  have hold : ∀ p ∈ before, (fun b => decide (b < W.heap.size)) p.block = true := fun p hp => by simpa using hlt p hp
  refine ⟨ds, gs, before, [], pa, pv, hW, hres _ _ _, hargs _ hold, hvars _ hold, World.keptBut_mono (fun p hp => ⟨hp, ?_⟩) (hx.kept (· ∈ before)), fun _ => ?_⟩
  · rw [hps, List.mem_append] at hp
    exact Or.inr hp
  · obtain ⟨_, _, _, _, _, hz, hn⟩ := hW
    refine ⟨hok, _, _, ([] ++ pa) ++ pv, ⟨[] ++ pa, pv, trodAll_append (hargs _ (fun _ _ => rfl)) (hres _ _ _), hvars _ (fun _ _ => rfl), rfl, ?_, ?_⟩, ?_⟩
    · intro b off hp
      have hb : (MemPlace.cell b off) ∈ before := by rw [hps]; simpa using hp
      rw [hx.frozen (hlt _ hb)]
      exact hz b off hb
    · intro ha
      have := hn ha
      rw [hps] at this
      simpa using this
    · intro p hp _
      rw [hps]
      simpa using hp
theorem u8_of {a : Int} (h : (Lit.int .u8 a).wf = true) : 0 ≤ a ∧ a ≤ 255 := by
  simp [Lit.wf, IntKind.min, IntKind.max, IntKind.bits, IntKind.signed] at h
  omega
theorem u16_of {a : Int} (h : (Lit.int .u16 a).wf = true) : 0 ≤ a ∧ a ≤ 65535 := by
  simp [Lit.wf, IntKind.min, IntKind.max, IntKind.bits, IntKind.signed] at h
  omega
theorem i64_of {a : Int} (h : (Lit.int .i64 a).wf = true) : -9223372036854775808 ≤ a ∧ a ≤ 9223372036854775807 := by
  simp [Lit.wf, IntKind.min, IntKind.max, IntKind.bits, IntKind.signed] at h
  omega
end Go.Sh
end
section
/-! A law's row: what its arguments tell, and that they read as they did. -/
namespace Go.Sh
open Go.ChangeShapes Go.WideShapes Go.ChangeAt Go.RowKit
set_option linter.unusedVariables false
theorem Ext.same {W W' : World} (h : Ext W W') {p : MemPlace} (hp : p.block < W.heap.size) : W.sameAt W' p := by
  cases p with
  | cell b o => show W'.cell? ⟨b, o, none⟩ = W.cell? ⟨b, o, none⟩; unfold World.cell?; rw [h.heap b hp]
  | map b => show W'.heap[b]? = W.heap[b]?; exact h.heap b hp
theorem trodAll_carry {H : Type} {enc : TypeId × Value → H} {P : Program} {W W' : World} {sp : Nat → Bool} : ∀ {ts : List TypeId} {vs : List Value} {ds : List (DataW H)} {ps : List MemPlace}, DataW.TrodAll enc P W 0 sp true ts vs ds ps → (∀ p ∈ ps, W.sameAt W' p) → DataW.TrodAll enc P W' 0 sp true ts vs ds ps
  | [], [], [], _, h, _ => h
  | _ :: _, _ :: _, _ :: _, _, ⟨p, q, ⟨n, h1⟩, h2, e⟩, hs => ⟨p, q, ⟨n, DataW.trod_carry n _ _ _ h1 fun x hx => hs x (by rw [e]; exact List.mem_append_left _ hx)⟩, trodAll_carry h2 fun x hx => hs x (by rw [e]; exact List.mem_append_right _ hx), e⟩
theorem law_post {P : Program} {H : Type} {enc : TypeId × Value → H} {f : Func} {s : ChangeSpec} {apart fresh handsOn again : Bool} {W W' : World} {args : Array Value} {ds gs : List (DataW H)} {before : List MemPlace} {tb : TypeId}
    (hl : laidOutB P = true) (hm : mapsRowed P = true) (hz : ((List.range P.types.size).all fun t => match P.underlying t with | some (.slice e) => decide (0 < P.cellsOf e) | _ => true) = true) (htp : (f.params.toList.all fun t => decide (t < P.types.size)) = true)
    (hW : DataW.Whole enc P f.params.toList s.vars apart W args.toList ds gs before) (hv : s.vars = []) (hargs : (s.fn H (ds ++ gs)).args = ds) (hres : (s.fn H (ds ++ gs)).results = [.lit (.bool true)]) (hvars : (s.fn H (ds ++ gs)).vars = [])
    (hrt : f.resultTypes = #[tb]) (htb : P.underlying tb = some .bool) (hx : Ext W W') : s.post enc P f apart fresh handsOn again W args (.bool true) W' := by
  have hlt := hW.lt
  have hW' := hW
  obtain ⟨p, q, hA, hV, rfl, hfz, hnd⟩ := hW
  rw [hv] at hV
  obtain ⟨rfl, rfl⟩ := trodVars_none hV
  rw [List.append_nil] at hW' hlt
  have hT : ∀ t ∈ f.params.toList, t < P.types.size := fun t ht => by simpa using List.all_eq_true.1 htp t ht
  refine post_ext (pa := p) (pv := []) hW' (fun _ _ _ => ?_) (fun sp hsp => ?_) (fun sp _ => ?_) (by simp) hx ?_
  · rw [hres, hrt]
    exact trodAll_cons_mk (shut_bool htb _) trodAll_mk0
  · rw [hargs]
    exact DataW.TrodAll.respare (kids_rows hl hm) (slices_full_of P hz) hT (trodAll_carry hA fun x hx' => hx.same (hlt x hx')) hsp
  · rw [hvars, hv]; rfl
  · exact ok_one hrt rfl (okWide_bool_mk htb _)
section
variable {P : Program} {H : Type} {enc : TypeId × Value → H} {w : World} {t e : TypeId} {v : Value} {d : DataW H} {ps : List MemPlace} {r : Reach} {b0 : Nat}
theorem open_strs (ht : P.underlying t = some (.slice e)) (he : P.underlying e = some .string) (hc : P.cellsOf e = 1) (hval : Value.okWide P w r b0 t v) (hd : DataW.Trod enc P w 0 (fun _ => true) true t v d ps) :
    ∃ (p : Option Addr) (c : Nat) (l : List ByteArray), v = .slice p l.length c ∧ (l ≠ [] → ∃ a, p = some a) ∧ (∀ a, p = some a → ∀ j s, l[j]? = some s → w.cell? (a.add j) = some (.string s)) ∧ ∀ s ∈ l, s.size ≤ maxLen := by
  obtain ⟨a0, len, cap, rfl⟩ := okWide_slice ht hval
  obtain ⟨fuel, hf⟩ := hd
  rcases open_strings ht he hc hf with ⟨h0, -⟩ | ⟨a, len', cap', ss, h0, h1, h2, h3, h4, h5, h6, h7⟩
  · have : a0 = none ∧ len = 0 ∧ cap = 0 := by simpa [Value.cells] using h0
    obtain ⟨rfl, rfl, rfl⟩ := this
    exact ⟨none, 0, [], rfl, fun h => absurd rfl h, (fun a ha => by cases ha), fun s hs => by cases hs⟩
  · have : a0 = some a ∧ len = len' ∧ cap = cap' := by simpa [Value.cells] using h0
    obtain ⟨rfl, rfl, rfl⟩ := this
    simp only [if_true] at h4
    refine ⟨some a, cap, ss.take len, by rw [List.length_take]; congr 1; omega, fun _ => ⟨a, rfl⟩, fun a' ha' j s hs => ?_, fun s hs => h7 s (List.mem_of_mem_take hs)⟩
    cases ha'
    rw [List.getElem?_take] at hs
    split at hs
    · have hj := (List.getElem?_eq_some_iff.1 hs).1
      rw [h6 j hj, List.getD_eq_getElem?_getD, hs]; rfl
    · cases hs
theorem open_u8s (ht : P.underlying t = some (.slice e)) (he : P.underlying e = some (.int .u8)) (hc : P.cellsOf e = 1) (hval : Value.okWide P w r b0 t v) (hd : DataW.Trod enc P w 0 (fun _ => true) true t v d ps) :
    ∃ (p : Option Addr) (c : Nat) (l : List UInt8), v = .slice p l.length c ∧ (l ≠ [] → ∃ a, p = some a) ∧ (∀ a, p = some a → ∀ j (s : UInt8), l[j]? = some s → w.cell? (a.add j) = some (.int .u8 s.toNat)) := by
  obtain ⟨a0, len, cap, rfl⟩ := okWide_slice ht hval
  obtain ⟨fuel, hf⟩ := hd
  rcases open_ints ht he hc hf with ⟨h0, -⟩ | ⟨a, len', cap', ss, h0, h1, h2, h3, h4, h5, h6, h7⟩
  · have : a0 = none ∧ len = 0 ∧ cap = 0 := by simpa [Value.cells] using h0
    obtain ⟨rfl, rfl, rfl⟩ := this
    exact ⟨none, 0, [], rfl, fun h => absurd rfl h, (fun a ha => by cases ha)⟩
  · have : a0 = some a ∧ len = len' ∧ cap = cap' := by simpa [Value.cells] using h0
    obtain ⟨rfl, rfl, rfl⟩ := this
    simp only [if_true] at h4
    refine ⟨some a, cap, (ss.take len).map fun n => UInt8.ofNat n.toNat, by rw [List.length_map, List.length_take]; congr 1; omega, fun _ => ⟨a, rfl⟩, fun a' ha' j s hs => ?_⟩
    cases ha'
    rw [List.getElem?_map, List.getElem?_take] at hs
    split at hs
    · cases hz : ss[j]? with
      | none => rw [hz] at hs; cases hs
      | some z =>
        rw [hz] at hs
        simp only [Option.map_some, Option.some.injEq] at hs
        have hj := (List.getElem?_eq_some_iff.1 hz).1
        have hw := u8_of (h7 z (List.mem_of_getElem? hz))
        rw [h6 j hj, List.getD_eq_getElem?_getD, hz]
        have : ((UInt8.ofNat z.toNat).toNat : Int) = z := by simp; omega
        rw [← hs, this]; rfl
    · cases hs
end
end Go.Sh
namespace Go.Proofs.YtedbbdeeofdepaaGreatDoor
theorem own : ownKnob Tryz.prog.godebug = none := by kernel_rfl
theorem rows_laid : laidOutB Tryz.prog = true := by kernel_rfl
theorem rows_maps : mapsRowed Tryz.prog = true := by kernel_rfl
theorem rows_full : ((List.range Tryz.prog.types.size).all fun t => match Tryz.prog.underlying t with | some (.slice e) => decide (0 < Tryz.prog.cellsOf e) | _ => true) = true := by kernel_rfl
end Go.Proofs.YtedbbdeeofdepaaGreatDoor
end
section
/-! A law's row: bytes as numbers. -/
namespace Go.Proofs.YtedbbdeeofdepaaGreatDoor
open Go.ChangeShapes Go.WideShapes Go.ChangeAt Go.RowKit Go.Sh
theorem u8_of {a : Int} (h : (Lit.int .u8 a).wf = true) : 0 ≤ a ∧ a < 256 := by
  simp [Lit.wf, IntKind.min, IntKind.max, IntKind.bits, IntKind.signed] at h
  omega
end Go.Proofs.YtedbbdeeofdepaaGreatDoor
end
