import Derived.ChangeSame
import Derived.Test.YtedbbdeeofdepaaGreatDoorProg
import Derived.ReadAgain
import Derived.ChangeMaps5
import Derived.SliceStrings
import Derived.ChangeSlices
import Derived.WalkKit
import Derived.ProofKit
import Derived.OpenShut
import Derived.Lib.SmallJoins
import Derived.Test.YtedbbdeeofdepaaGreatDoorM2
import Derived.Test.YtedbbdeeofdepaaGreatDoorM17
import Derived.Test.YtedbbdeeofdepaaGreatDoorM18
section
/-! mend: MendRebuilds. -/
namespace Go.Proofs.YtedbbdeeofdepaaGreatDoor
open Go.Sh Go.RowKit
set_option linter.unusedVariables false
set_option linter.unusedSimpArgs false
set_option maxRecDepth 20000
set_option maxHeartbeats 1000000
theorem rebuilds19_law {l : List ByteArray} {p : Option Addr} {c0 : Nat} {w : World} (Hs : strsAt w p l) {a b d n4 n5 : Int} (ha : 0 ≤ a ∧ a ≤ 255) (hb : 0 ≤ b ∧ b ≤ 255) (hd : 0 ≤ d ∧ d ≤ 255) (h4 : 0 ≤ n4 ∧ n4 ≤ 255) (h5 : 0 ≤ n5 ∧ n5 ≤ 255) (x : ByteArray) :
    Ret Tryz.prog 5 #[.int .u8 a, .int .u8 b, .int .u8 d, .slice p l.length c0, .int .u8 n4, .int .u8 n5, .string x] w (.bool true) := by
  refine ret_of (revetmentlaw19_MendRebuilds_calls ?_)
  unfold revetmentlaw19_MendRebuilds
  refine ⟨dec_t fun _ => shown19_end (.refl w), dec_f fun hl10 => ⟨dec_t fun _ => shown19_end (.refl w), dec_f fun hx100 => ?_⟩⟩
  refine (shown19_spec w).mono fun e w2 ⟨he2, hx2⟩ => ⟨_, he2, no rfl ?_⟩
  refine chk_loop (by omega) Hs hx2 fun hl100 => ?_
  refine setup19 ha hb hd hx2 fun gc gk gr N s ds k1 k2 w3 e1 e2 e3 hgeo hN hpos hMd hH hl H3 => ?_
  obtain ⟨ec, ek, er⟩ := hgeo
  have hgB : (4 ≤ gc ∧ gc ≤ 7) ∧ (1 ≤ gk ∧ gk ≤ 3) ∧ (1 ≤ gr ∧ gr ≤ 4) := by omega
  have tm : ∀ {x n : Int}, 0 ≤ x ∧ x ≤ 255 → Int.tmod (IntKind.i64.wrap x) n = x % n := fun {x n} hx => by
    rw [wrap64 x (by omega) (by omega), Int.tmod_eq_emod_of_nonneg hx.1]
  simp only [tm hd, tm h4, tm h5]
  obtain ⟨c, hc⟩ : ∃ c : Nat, gc = (c : Int) := ⟨gc.toNat, by omega⟩
  obtain ⟨kk, hkk⟩ : ∃ c : Nat, gk = (c : Int) := ⟨gk.toNat, by omega⟩
  have hcn : gc.toNat = c := by omega
  rw [hcn] at hl hMd H3
  have hsc : s.c = (c : Int) := by omega
  have hsk : s.k = (kk : Int) := by omega
  have hok := hMd.ok
  generalize hX : [blk k2 (rwC s c c) 30, blk k1 #[.int .i64 gc, .int .i64 gk, .int .i64 gr] 25] = X at H3
  have m1 : blk k1 #[.int .i64 gc, .int .i64 gk, .int .i64 gr] 25 ∈ X := by rw [← hX]; exact (by repeat (first | exact List.Mem.head _ | refine List.Mem.tail _ ?_))
  have m2 : blk k2 (rwC s c c) 30 ∈ X := by rw [← hX]; exact (by repeat (first | exact List.Mem.head _ | refine List.Mem.tail _ ?_))
  have c1 : ∀ {h : Kd} {w' : World} {Q : List A}, Ow h [] w w' (Q ++ X) → ∀ i v, (#[.int .i64 gc, .int .i64 gk, .int .i64 gr] : Array Value)[i]? = some v → w'.cell? ⟨k1, i, none⟩ = some v := fun h' i v hv => h'.ld (List.mem_append_right _ m1) hv
  have c2 : ∀ {h : Kd} {w' : World} {Q : List A}, Ow h [] w w' (Q ++ X) → ∀ i v, (rwC s c c)[i]? = some v → w'.cell? ⟨k2, i, none⟩ = some v := fun h' i v hv => h'.ld (List.mem_append_right _ m2) hv
  refine ⟨gr, c1 (Q := []) H3 2 _ rfl, by omega, ?_⟩
  have bR : 0 ≤ d % gr ∧ d % gr < gr := ⟨Int.emod_nonneg _ (by omega), Int.emod_lt_of_pos _ (by omega)⟩
  generalize d % gr = row at bR
  have hrow : 0 ≤ row ∧ row < s.r := by omega
  have hlb : (List.replicate c gr).length = c := List.length_replicate
  refine lay_loop (c0 := c0) (R := fun v w' => v = Value.bool true ∧ Ext w w') hl100 hsc hsk hkk hlb hrow hMd hH H3 Hs m1 m2 fun du fu w4 hMu hHu hru H4 => ?_
  obtain ⟨hGL, hLl⟩ := goodL_dt (l := l) (c := c) (by omega)
  have b4 : 0 ≤ n4 % gc ∧ n4 % gc < gc := ⟨Int.emod_nonneg _ (by omega), Int.emod_lt_of_pos _ (by omega)⟩
  have b5 : 0 ≤ n5 % gc ∧ n5 % gc < gc := ⟨Int.emod_nonneg _ (by omega), Int.emod_lt_of_pos _ (by omega)⟩
  refine ⟨gc, c1 (Q := []) H4 0 _ rfl, by omega, ?_⟩
  obtain ⟨g1, g2, q1, q2, _⟩ := se_open H4
  have hlu : du.length = c := by have := hMu.len; omega
  refine ⟨fun w' => Ow (seK s du (List.replicate c gr)) [] w w' X, H4.drew, _, _, _, fun w' h' => c2 (Q := []) h' 3 _ rfl, gc, fun w' h' => c1 (Q := []) h' 0 _ rfl, by omega, ⟨g1, 0, none⟩, q1, b5.1, by omega, ?_⟩
  generalize n4 % gc = g' at b4
  generalize n5 % gc = y' at b5
  obtain ⟨g, rfl⟩ : ∃ c : Nat, g' = (c : Int) := ⟨g'.toNat, by omega⟩
  obtain ⟨y, rfl⟩ : ∃ c : Nat, y' = (c : Int) := ⟨y'.toNat, by omega⟩
  simp only [Int.toNat_natCast]
  refine se_none H4.drew q1 (by omega) fun w5 H5 => ?_
  have hrk : 1 ≤ gr * gk ∧ gr * gk ≤ 12 := by
    refine ⟨hpos, ?_⟩
    have := Int.mul_le_mul hgB.2.2.2 hgB.2.1.2 (by omega) (by omega); omega
  refine ⟨fun w' => ∃ h, Ow h [] w w' X, ⟨_, H5.drew⟩, _, _, _, fun w' ⟨h, h'⟩ => c2 (Q := []) h' 3 _ rfl, gr, fun w' ⟨h, h'⟩ => c1 (Q := []) h' 2 _ rfl, gk, fun w' ⟨h, h'⟩ => c1 (Q := []) h' 1 _ rfl, ?_⟩
  rw [wrap64 (gr * gk) (by omega) (by omega), wrap64 (4 + gr * gk) (by omega) (by omega), ← hN]
  refine Ow.newD H5.drew (by omega) fun q w6 H6 => ⟨_, rfl, ⟨_, H6⟩, ⟨g1, 0, none⟩, q1, by omega, by omega, ?_⟩
  refine se_new H6 q1 (by rw [List.length_set]; omega) fun w7 H7 => ?_
  refine ⟨_, _, _, c2 (Q := []) H7 4 _ rfl, ⟨g2, 0, none⟩, q2, by omega, by omega, ?_⟩
  refine se_bu H7 q2 (by omega) fun w8 H8 => ?_
  -- a new drive, with something on it
  generalize hbu1 : (List.replicate c gr).set g row = bu1 at H8
  have hlb1 : bu1.length = c := by rw [← hbu1, List.length_set]; exact hlb
  have hget1 : ∀ i, i < c → bu1.getD i 0 = if i = g then row else gr := fun i hi => by
    rw [← hbu1, List.getD_eq_getElem?_getD, List.getElem?_set]
    by_cases e : g = i
    · rw [if_pos e, if_pos (by omega), if_pos e.symm]; rfl
    · rw [if_neg e, if_neg (fun h => e h.symm), List.getElem?_replicate, if_pos hi]; rfl
  generalize hd2 : (du.set y none).set g (some (q, AD.new N)) = d2 at H8
  have hk2 : d2[g]? = some (some (q, AD.new N)) := by rw [← hd2]; exact List.getElem?_set_self (by rw [List.length_set]; omega)
  have pc : ∀ {dz : List Od} {w' : World}, blks dz = blks d2 → Ow (seK s dz bu1) [] w w' X → w'.cell? (Addr.add ⟨g1, 0, none⟩ (g * 1)) = some (.pointer (some ⟨q, 0, none⟩)) := fun hbz h' => by
    obtain ⟨ad, had, hcl⟩ := (se_w h').pd.get (n := g) (x := some q) (by rw [hbz]; exact blks_get hk2)
    rw [q1] at had; cases had
    exact hcl
  refine ⟨fun w' => ∃ dz, blks dz = blks d2 ∧ Ow (seK s dz bu1) [] w w' X, ⟨d2, rfl, H8.drew⟩, _, _, _, fun w' ⟨dz, _, h'⟩ => c2 (Q := []) h' 3 _ rfl, ⟨g1, 0, none⟩, q1, by omega, by omega, _, fun w' ⟨dz, hbz, h'⟩ => pc hbz h', no rfl ?_⟩
  refine ⟨_, _, _, fun w' ⟨dz, _, h'⟩ => c2 (Q := []) h' 3 _ rfl, ⟨g1, 0, none⟩, q1, by omega, by omega, _, fun w' ⟨dz, hbz, h'⟩ => pc hbz h', gk, fun w' ⟨dz, _, h'⟩ => c1 (Q := []) h' 1 _ rfl, ?_⟩
  have hmk : 0 ≤ row * gk ∧ row * gk + gk ≤ gr * gk := by
    refine ⟨Int.mul_nonneg bR.1 (by omega), ?_⟩
    have := Int.mul_le_mul_of_nonneg_right (show row + 1 ≤ gr by omega) (show 0 ≤ gk by omega)
    rw [Int.add_mul, Int.one_mul] at this
    exact this
  refine (full19_spec _ (by omega) _).mono fun e w9 ⟨he9, hx9⟩ => ⟨_, he9, ⟨d2, rfl, H8.drew.quiet hx9⟩, ?_⟩
  rw [wrap64 (row * gk) (by omega) (by omega), wrap64 (4 + row * gk) (by omega) (by omega)]
  obtain ⟨tn, htn⟩ : ∃ t : Nat, 4 + row * gk = (t : Int) := ⟨(4 + row * gk).toNat, by omega⟩
  rw [htn]
  have hput : (AD.new N).put (tn : Int) (fullB x) = 0 := (AD.On.new N).put (by omega) (fullB_size x)
  refine (se_on (H8.drew.quiet hx9) hk2 fun Z hZ => write_a hZ (few_new N 1000000) (tn : Int) (fullB x)).mono fun e w10 ⟨he10, H10⟩ => ?_
  rw [hput] at he10
  refine ⟨_, he10, ⟨_, blks_set hk2, H10⟩, no rfl ?_⟩
  have hM1 := hMu.put (i := y) (by omega) (y := none) (k := 1) (g := fun _ => zeroSec) (.inr (.inl ⟨rfl, rfl⟩))
  have hM2 := (hM1.mono (Nat.le_succ _)).put (i := g) (by rw [List.length_set]; omega) (y := some (q, (AD.new N).write (tn : Int) (fullB x))) (k := 0) (.inl ⟨rfl, q, _, rfl, ((hold_new N).live (kk * c)).write (j := tn) (by omega) (fullB_size x)⟩)
  have hd3 : d2.set g (some (q, (AD.new N).write (tn : Int) (fullB x))) = (du.set y none).set g (some (q, (AD.new N).write (tn : Int) (fullB x))) := by rw [← hd2, List.set_set]
  have hb3 := blks_set (b := (AD.new N).write (tn : Int) (fullB x)) hk2
  rw [hd3] at H10 hb3
  generalize hf2 : (fun j => if j = g then (fun i => if i = tn then fullB x else zeroSec) else (fun j => if j = y then (fun _ => zeroSec) else fu j) j) = f2 at hM2
  generalize hK2 : (fun j => if j = g then 0 else (fun j => if j = y then 1 else (fun _ => 0) j) j) = K2 at hM2
  have hM2 := hM2.numbers (bu' := bu1) (by omega)
  generalize (du.set y none).set g (some (q, (AD.new N).write (tn : Int) (fullB x))) = d3 at H10 hb3 hM2
  have hl3 : d3.length = c := by have := hM2.len; omega
  have hK2v : ∀ j, K2 j = if j = g then 0 else if j = y then 1 else 0 := fun j => by rw [← hK2]
  have hK2n : ∀ j, j < c → K2 j ≠ 2 := fun j _ => by
    rw [hK2v]
    split
    · decide
    · split <;> decide
  obtain ⟨r, hr, hrc, hro⟩ := role_of hok hrow hsc (g := g) (by omega)
  have hcolB : ∀ i : Nat, i < c → (colR s row i).toNat < c := fun i hi => by have := (colR_nat hok hrow (role := (i : Int)) (by omega)).2; omega
  have hinj : ∀ i j : Nat, i < c → j < c → (colR s row i).toNat = (colR s row j).toNat → i = j := fun i j hi hj h => col_role hok hrow hsc hi hj h
  have hrm : (r : Int) ∈ misL (lostK s bu1 K2 row) c := misL_mem.2 ⟨r, rfl, hr, by
    unfold lostK
    rw [hrc, hget1 g (by omega), if_pos rfl, decide_eq_true (Int.le_refl row), Bool.true_or]⟩
  have happ : appR (misL (lostK s bu1 K2 row) c) r = misL (lostK s bu1 K2 row) c := if_pos hrm
  have hle2 : (misL (lostK s bu1 K2 row) c).length ≤ 2 := misL_most (S := [y, g]) hinj fun i hi hp => by
    by_cases e1 : (colR s row i).toNat = g
    · simp [e1]
    · by_cases e2 : (colR s row i).toNat = y
      · simp [e2]
      · unfold lostK at hp
        rw [hget1 _ (hcolB i hi), if_neg e1, hK2v, if_neg e1, if_neg e2, decide_eq_false (by omega), decide_eq_false (by decide)] at hp
        cases hp
  have hLg : ∀ m, m < kk → GoodL (makeF (dtL l (c - 2))) 64 ∧ (makeF (dtL l (c - 2))).length = c ∧ ∀ i, i < c → i ≠ r → lostK s bu1 K2 row i = false → (rwT s f2 row m c).getD i [] = (makeF (dtL l (c - 2))).getD i [] := fun m hm => by
    refine ⟨hGL, hLl, fun i hi hne hlo => ?_⟩
    have n1 : (colR s row i).toNat ≠ g := fun e => hne (hinj i r hi hr (by omega))
    have n2 : (colR s row i).toNat ≠ y := fun e => by
      rw [lostK_yes (by rw [hK2v, if_neg n1, if_pos e])] at hlo
      cases hlo
    have e1 : f2 (colR s row i).toNat = fu (colR s row i).toNat := by
      rw [← hf2]
      simp only [n1, n2, if_false]
    rw [rwT_get _ _ _ _ hi, e1, ← rwT_get s fu row m hi, hru m hm]
  refine ⟨_, _, _, _, _, _, _, _, _, fun w' ⟨dz, _, h'⟩ => ⟨c2 (Q := []) h' 0 _ rfl, c2 (Q := []) h' 1 _ rfl, c2 (Q := []) h' 2 _ rfl, c2 (Q := []) h' 3 _ rfl, c2 (Q := []) h' 4 _ rfl⟩, ?_⟩
  have hkc : kk * c ≤ 3 * 7 := Nat.mul_le_mul (by omega) (by omega)
  have hRb := rebuild_good (s := s) (bu := bu1) (row := row) (kk := kk) (c := c) (g := g) (r := r) (K := K2) (f := f2) (Lg := fun _ => makeF (dtL l (c - 2))) hsk hsc (by omega) hK2n hrow (by omega) (by rw [hK2v, if_pos rfl]) hr hrc hro hLg hM2 H10 (by rw [happ]; exact hle2)
  rw [hl3, hlb1] at hRb
  refine hRb.mono fun e w11 ⟨he11, H11⟩ => ?_
  obtain ⟨d4, ⟨f4, hM4, hH4, hrw4, hf4, hb4⟩, H11⟩ := so_open H11
  refine ⟨_, he11, ⟨d4, hb4.trans hb3, H11⟩, no rfl ?_⟩
  refine ⟨_, _, _, c2 (Q := []) H11 4 _ rfl, ⟨g2, 0, none⟩, q2, by omega, by omega, ?_⟩
  rw [wrap64 (row + 1) (by omega) (by omega)]
  refine se_bu H11 q2 (by omega) fun w12 H12 => ?_
  -- what is found
  generalize hbu2 : bu1.set g (row + 1) = bu2 at H12
  have hlb2 : bu2.length = c := by rw [← hbu2, List.length_set]; exact hlb1
  have hM4 := hM4.numbers (bu' := bu2) (by omega)
  have hl4 : d4.length = c := by have := hM4.len; omega
  have hget2 : ∀ i, i < c → row < bu2.getD i 0 := fun i hi => by
    rw [← hbu2, List.getD_eq_getElem?_getD, List.getElem?_set]
    by_cases e : g = i
    · rw [if_pos e, if_pos (by omega)]
      show row < row + 1
      omega
    · rw [if_neg e, ← List.getD_eq_getElem?_getD, hget1 i hi, if_neg (fun h => e h.symm)]
      omega
  have hle1 : (misL (lostK s bu2 K2 row) c).length ≤ 1 := misL_most (S := [y]) hinj fun i hi hp => by
    by_cases e2 : (colR s row i).toNat = y
    · simp [e2]
    · have e3 : K2 (colR s row i).toNat ≠ 1 := by
        rw [hK2v]
        split
        · decide
        · first
            | decide
            | (rw [if_neg e2]; decide)
      rw [lostK_no e3 (hget2 _ (hcolB i hi))] at hp
      cases hp
  have hfil : ∀ m : Nat, m < kk → filR s d4 bu2 row m = .ok (makeF (dtL l (c - 2)), misL (lostK s bu2 K2 row) c) := fun m hm => by
    rw [filR_of hM4.may hrow (off := (m : Int)) (by omega) hsc hLl hGL (lostK s bu2 K2 row) fun i hi => ?_, if_pos (by omega)]
    rw [hM4.secs hrow (off := (m : Int)) (by omega) hsc (fun i hi e => absurd e (hK2n i hi)) i hi]
    cases hlo : lostK s bu2 K2 row i with
    | true => rfl
    | false =>
      simp only [Bool.false_eq_true, if_false]
      rw [hrw4 m hm]
      by_cases e : i = r
      · subst e
        rw [List.getD_eq_getElem?_getD (l := (rwT s f2 row m c).set i _), List.getElem?_set_self (by rw [rwT_len]; exact hi)]; rfl
      · rw [List.getD_eq_getElem?_getD (l := (rwT s f2 row m c).set r _), List.getElem?_set_ne (Ne.symm e), ← List.getD_eq_getElem?_getD]
        have hlo1 : lostK s bu1 K2 row i = false := by
          have n1 : (colR s row i).toNat ≠ g := fun h => e (hinj i r hi hr (by omega))
          unfold lostK at hlo ⊢
          rw [Bool.or_eq_false_iff] at hlo ⊢
          exact ⟨by rw [hget1 _ (hcolB i hi), if_neg n1]; exact decide_eq_false (by omega), hlo.2⟩
        rw [(hLg m hm).2.2 i hi e hlo1]
  refine ⟨fun vs w' => ∃ i : Nat, vs = [.int .i64 (i : Int)] ∧ i ≤ kk ∧ Ow (seK s d4 bu2) [] w w' X, fun vs _ => match vs with | [.int _ i] => ((kk : Int) - i).toNat | _ => 0, ⟨0, rfl, by omega, H12⟩, ?_⟩
  clear H12 H11 H10 H8 H7 H5 H4 H3
  rintro vs w13 ⟨i, rfl, hi, H13⟩
  refine ⟨_, rfl, gk, c1 (Q := []) H13 1 _ rfl, dec_t fun hlt => ?_, dec_f fun hge => ⟨trivial, H13.ext⟩⟩
  refine ⟨_, _, _, _, _, _, _, _, _, ⟨c2 (Q := []) H13 0 _ rfl, c2 (Q := []) H13 1 _ rfl, c2 (Q := []) H13 2 _ rfl, c2 (Q := []) H13 3 _ rfl, c2 (Q := []) H13 4 _ rfl⟩, ?_⟩
  have hFi := filled16_spec (se_w H13) (by omega) (hM4.few.mono (by omega)) row i
  rw [hl4, hlb2, hfil i (by omega)] at hFi
  refine hFi.mono fun e w14 ⟨v, he14, gx, cx, gl, cl', hv, hT14⟩ => ?_
  subst hv
  have hT14 : T [] w13 w14 [rowP 9 1 gx (makeF (dtL l (c - 2))).length cx (txts (makeF (dtL l (c - 2)))), rowP 3 1 gl (misL (lostK s bu2 K2 row) c).length cl' (intsI (misL (lostK s bu2 K2 row) c))] := hT14
  have H14 := Ow.new H13 hT14
  rw [hLl] at H14
  refine ⟨_, _, _, _, _, _, _, he14, no rfl (no (decide_eq_false (by show ¬ (((misL (lostK s bu2 K2 row) c).length : Int) > 1); omega)) ?_)⟩
  have hs14 := T.strs H14.under (g := gx) (L := makeF (dtL l (c - 2))) (n := c) (cap := cx) (by repeat (first | exact List.Mem.head _ | refine List.Mem.tail _ ?_))
  have hcap : (makeF (dtL l (c - 2))).length ≤ cx := by
    have := (H14.under.says (x := rowP 9 1 gx c cx (txts (makeF (dtL l (c - 2))))) (by repeat (first | exact List.Mem.head _ | refine List.Mem.tail _ ?_))).2.1
    omega
  refine (goodR_spec hGL.short (by omega) (by omega) hcap hs14.1).mono fun e w15 ⟨he15, hx15⟩ => ⟨_, he15, no (by rw [hGL.goodF]; rfl) ?_⟩
  show LoopP _ _
  rw [show ((makeF (dtL l (c - 2))).length : Int) = (c : Int) by omega]
  refine cmp_loop (R := fun v w' => v = Value.bool true ∧ Ext w w') (X := rowP 3 1 gl (misL (lostK s bu2 K2 row) c).length cl' (intsI (misL (lostK s bu2 K2 row) c)) :: X) hl100 hc (by omega) (H14.quiet hx15) Hs (List.mem_cons_of_mem _ m1) fun w16 H16 => ⟨⟨i + 1, by rw [wrap64 _ (by omega) (by omega)]; rfl, by omega, H16.dropX.dropX⟩, ?_⟩
  show ((kk : Int) - IntKind.i64.wrap ((i : Int) + 1)).toNat < ((kk : Int) - (i : Int)).toNat
  rw [wrap64 _ (by omega) (by omega)]; omega
end Go.Proofs.YtedbbdeeofdepaaGreatDoor
end
section
/-! A row's end, of a call that makes no more than new memory. -/
namespace Go.Sh
open Go.RowKit Go.ChangeShapes Go.WideShapes
theorem Ext.kept {W W' : World} (h : Ext W W') (may : MemPlace → Prop) : W.keptBut W' may := by
  refine ⟨h.os, h.output, fun i hi => ?_⟩
  rw [h.heap i hi]
  cases hw : W.heap[i]? with
  | none => simp
  | some o => cases o <;> simp
theorem Ext.frozen {W W' : World} (h : Ext W W') {a : Addr} (ha : a.block < W.heap.size) : W'.frozen? a = W.frozen? a := by simp only [World.frozen?, h.heap _ ha]
theorem post_ext {P : Program} {H : Type} {enc : TypeId × Value → H} {f : Func} {s : ChangeSpec} {apart fresh handsOn again : Bool} {W W' : World} {args : Array Value} {v : Value} {ds gs : List (DataW H)} {before pa pv : List MemPlace}
    (hW : DataW.Whole enc P f.params.toList s.vars apart W args.toList ds gs before)
    (hres : ∀ (b : Nat) (sp : Nat → Bool) (hd : Bool), DataW.TrodAll enc P W' b sp hd f.resultTypes.toList (v.resultList f.resultTypes.size) (s.fn H (ds ++ gs)).results [])
    (hargs : ∀ sp : Nat → Bool, (∀ p ∈ before, sp p.block = true) → DataW.TrodAll enc P W' 0 sp true f.params.toList args.toList (s.fn H (ds ++ gs)).args pa)
    (hvars : ∀ sp : Nat → Bool, (∀ p ∈ before, sp p.block = true) → DataW.TrodVars enc P W' sp s.vars (s.fn H (ds ++ gs)).vars pv)
    (hps : before = pa ++ pv) (hx : Ext W W')
    (hok : ∀ (j : Nat) (t : TypeId) (r : Value), f.resultTypes[j]? = some t → (v.resultList f.resultTypes.size)[j]? = some r → Value.okWide P W' .any 0 t r) :
    s.post enc P f apart fresh handsOn again W args v W' := by
  have hlt : ∀ p ∈ before, p.block < W.heap.size := hW.lt
  have hold : ∀ p ∈ before, (fun b => decide (b < W.heap.size)) p.block = true := fun p hp => by simpa using hlt p hp
  refine ⟨ds, gs, before, [], pa, pv, hW, hres _ _ _, hargs _ hold, hvars _ hold, World.keptBut_mono (fun p hp => ⟨hp, ?_⟩) (hx.kept (· ∈ before)), fun _ => ?_⟩
  · rw [hps, List.mem_append] at hp
    exact Or.inr hp
  · obtain ⟨_, _, _, _, _, hz, hn⟩ := hW
    refine ⟨hok, _, _, ([] ++ pa) ++ pv, ⟨[] ++ pa, pv, trodAll_append (hargs _ (fun _ _ => rfl)) (hres _ _ _), hvars _ (fun _ _ => rfl), rfl, ?_, ?_⟩, ?_⟩
    · intro b off hp
      have hb : (MemPlace.cell b off) ∈ before := by rw [hps]; simpa using hp
      rw [hx.frozen (hlt _ hb)]
      exact hz b off hb
    · intro ha
      have := hn ha
      rw [hps] at this
      simpa using this
    · intro p hp _
      rw [hps]
      simpa using hp
theorem u8_of {a : Int} (h : (Lit.int .u8 a).wf = true) : 0 ≤ a ∧ a ≤ 255 := by
  simp [Lit.wf, IntKind.min, IntKind.max, IntKind.bits, IntKind.signed] at h
  omega
theorem u16_of {a : Int} (h : (Lit.int .u16 a).wf = true) : 0 ≤ a ∧ a ≤ 65535 := by
  simp [Lit.wf, IntKind.min, IntKind.max, IntKind.bits, IntKind.signed] at h
  omega
theorem i64_of {a : Int} (h : (Lit.int .i64 a).wf = true) : -9223372036854775808 ≤ a ∧ a ≤ 9223372036854775807 := by
  simp [Lit.wf, IntKind.min, IntKind.max, IntKind.bits, IntKind.signed] at h
  omega
end Go.Sh
end
section
/-! A law's row: what its arguments tell, and that they read as they did. -/
namespace Go.Sh
open Go.ChangeShapes Go.WideShapes Go.ChangeAt Go.RowKit
set_option linter.unusedVariables false
theorem Ext.same {W W' : World} (h : Ext W W') {p : MemPlace} (hp : p.block < W.heap.size) : W.sameAt W' p := by
  cases p with
  | cell b o => show W'.cell? ⟨b, o, none⟩ = W.cell? ⟨b, o, none⟩; unfold World.cell?; rw [h.heap b hp]
  | map b => show W'.heap[b]? = W.heap[b]?; exact h.heap b hp
theorem trodAll_carry {H : Type} {enc : TypeId × Value → H} {P : Program} {W W' : World} {sp : Nat → Bool} : ∀ {ts : List TypeId} {vs : List Value} {ds : List (DataW H)} {ps : List MemPlace}, DataW.TrodAll enc P W 0 sp true ts vs ds ps → (∀ p ∈ ps, W.sameAt W' p) → DataW.TrodAll enc P W' 0 sp true ts vs ds ps
  | [], [], [], _, h, _ => h
  | _ :: _, _ :: _, _ :: _, _, ⟨p, q, ⟨n, h1⟩, h2, e⟩, hs => ⟨p, q, ⟨n, DataW.trod_carry n _ _ _ h1 fun x hx => hs x (by rw [e]; exact List.mem_append_left _ hx)⟩, trodAll_carry h2 fun x hx => hs x (by rw [e]; exact List.mem_append_right _ hx), e⟩
theorem law_post {P : Program} {H : Type} {enc : TypeId × Value → H} {f : Func} {s : ChangeSpec} {apart fresh handsOn again : Bool} {W W' : World} {args : Array Value} {ds gs : List (DataW H)} {before : List MemPlace} {tb : TypeId}
    (hl : laidOutB P = true) (hm : mapsRowed P = true) (hz : ((List.range P.types.size).all fun t => match P.underlying t with | some (.slice e) => decide (0 < P.cellsOf e) | _ => true) = true) (htp : (f.params.toList.all fun t => decide (t < P.types.size)) = true)
    (hW : DataW.Whole enc P f.params.toList s.vars apart W args.toList ds gs before) (hv : s.vars = []) (hargs : (s.fn H (ds ++ gs)).args = ds) (hres : (s.fn H (ds ++ gs)).results = [.lit (.bool true)]) (hvars : (s.fn H (ds ++ gs)).vars = [])
    (hrt : f.resultTypes = #[tb]) (htb : P.underlying tb = some .bool) (hx : Ext W W') : s.post enc P f apart fresh handsOn again W args (.bool true) W' := by
  have hlt := hW.lt
  have hW' := hW
  obtain ⟨p, q, hA, hV, rfl, hfz, hnd⟩ := hW
  rw [hv] at hV
  obtain ⟨rfl, rfl⟩ := trodVars_none hV
  rw [List.append_nil] at hW' hlt
  have hT : ∀ t ∈ f.params.toList, t < P.types.size := fun t ht => by simpa using List.all_eq_true.1 htp t ht
  refine post_ext (pa := p) (pv := []) hW' (fun _ _ _ => ?_) (fun sp hsp => ?_) (fun sp _ => ?_) (by simp) hx ?_
  · rw [hres, hrt]
    exact trodAll_cons_mk (shut_bool htb _) trodAll_mk0
  · rw [hargs]
    exact DataW.TrodAll.respare (kids_rows hl hm) (slices_full_of P hz) hT (trodAll_carry hA fun x hx' => hx.same (hlt x hx')) hsp
  · rw [hvars, hv]; rfl
  · exact ok_one hrt rfl (okWide_bool_mk htb _)
section
variable {P : Program} {H : Type} {enc : TypeId × Value → H} {w : World} {t e : TypeId} {v : Value} {d : DataW H} {ps : List MemPlace} {r : Reach} {b0 : Nat}
theorem open_strs (ht : P.underlying t = some (.slice e)) (he : P.underlying e = some .string) (hc : P.cellsOf e = 1) (hval : Value.okWide P w r b0 t v) (hd : DataW.Trod enc P w 0 (fun _ => true) true t v d ps) :
    ∃ (p : Option Addr) (c : Nat) (l : List ByteArray), v = .slice p l.length c ∧ (l ≠ [] → ∃ a, p = some a) ∧ (∀ a, p = some a → ∀ j s, l[j]? = some s → w.cell? (a.add j) = some (.string s)) ∧ ∀ s ∈ l, s.size ≤ maxLen := by
  obtain ⟨a0, len, cap, rfl⟩ := okWide_slice ht hval
  obtain ⟨fuel, hf⟩ := hd
  rcases open_strings ht he hc hf with ⟨h0, -⟩ | ⟨a, len', cap', ss, h0, h1, h2, h3, h4, h5, h6, h7⟩
  · have : a0 = none ∧ len = 0 ∧ cap = 0 := by simpa [Value.cells] using h0
    obtain ⟨rfl, rfl, rfl⟩ := this
    exact ⟨none, 0, [], rfl, fun h => absurd rfl h, (fun a ha => by cases ha), fun s hs => by cases hs⟩
  · have : a0 = some a ∧ len = len' ∧ cap = cap' := by simpa [Value.cells] using h0
    obtain ⟨rfl, rfl, rfl⟩ := this
    simp only [if_true] at h4
    refine ⟨some a, cap, ss.take len, by rw [List.length_take]; congr 1; omega, fun _ => ⟨a, rfl⟩, fun a' ha' j s hs => ?_, fun s hs => h7 s (List.mem_of_mem_take hs)⟩
    cases ha'
    rw [List.getElem?_take] at hs
    split at hs
    · have hj := (List.getElem?_eq_some_iff.1 hs).1
      rw [h6 j hj, List.getD_eq_getElem?_getD, hs]; rfl
    · cases hs
theorem open_u8s (ht : P.underlying t = some (.slice e)) (he : P.underlying e = some (.int .u8)) (hc : P.cellsOf e = 1) (hval : Value.okWide P w r b0 t v) (hd : DataW.Trod enc P w 0 (fun _ => true) true t v d ps) :
    ∃ (p : Option Addr) (c : Nat) (l : List UInt8), v = .slice p l.length c ∧ (l ≠ [] → ∃ a, p = some a) ∧ (∀ a, p = some a → ∀ j (s : UInt8), l[j]? = some s → w.cell? (a.add j) = some (.int .u8 s.toNat)) := by
  obtain ⟨a0, len, cap, rfl⟩ := okWide_slice ht hval
  obtain ⟨fuel, hf⟩ := hd
  rcases open_ints ht he hc hf with ⟨h0, -⟩ | ⟨a, len', cap', ss, h0, h1, h2, h3, h4, h5, h6, h7⟩
  · have : a0 = none ∧ len = 0 ∧ cap = 0 := by simpa [Value.cells] using h0
    obtain ⟨rfl, rfl, rfl⟩ := this
    exact ⟨none, 0, [], rfl, fun h => absurd rfl h, (fun a ha => by cases ha)⟩
  · have : a0 = some a ∧ len = len' ∧ cap = cap' := by simpa [Value.cells] using h0
    obtain ⟨rfl, rfl, rfl⟩ := this
    simp only [if_true] at h4
    refine ⟨some a, cap, (ss.take len).map fun n => UInt8.ofNat n.toNat, by rw [List.length_map, List.length_take]; congr 1; omega, fun _ => ⟨a, rfl⟩, fun a' ha' j s hs => ?_⟩
    cases ha'
    rw [List.getElem?_map, List.getElem?_take] at hs
    split at hs
    · cases hz : ss[j]? with
      | none => rw [hz] at hs; cases hs
      | some z =>
        rw [hz] at hs
        simp only [Option.map_some, Option.some.injEq] at hs
        have hj := (List.getElem?_eq_some_iff.1 hz).1
        have hw := u8_of (h7 z (List.mem_of_getElem? hz))
        rw [h6 j hj, List.getD_eq_getElem?_getD, hz]
        have : ((UInt8.ofNat z.toNat).toNat : Int) = z := by simp; omega
        rw [← hs, this]; rfl
    · cases hs
end
end Go.Sh
namespace Go.Proofs.YtedbbdeeofdepaaGreatDoor
theorem own : ownKnob Tryz.prog.godebug = none := by kernel_rfl
theorem rows_laid : laidOutB Tryz.prog = true := by kernel_rfl
theorem rows_maps : mapsRowed Tryz.prog = true := by kernel_rfl
theorem rows_full : ((List.range Tryz.prog.types.size).all fun t => match Tryz.prog.underlying t with | some (.slice e) => decide (0 < Tryz.prog.cellsOf e) | _ => true) = true := by kernel_rfl
end Go.Proofs.YtedbbdeeofdepaaGreatDoor
end
section
/-! A law's row: bytes as numbers. -/
namespace Go.Proofs.YtedbbdeeofdepaaGreatDoor
open Go.ChangeShapes Go.WideShapes Go.ChangeAt Go.RowKit Go.Sh
theorem u8_of {a : Int} (h : (Lit.int .u8 a).wf = true) : 0 ≤ a ∧ a < 256 := by
  simp [Lit.wf, IntKind.min, IntKind.max, IntKind.bits, IntKind.signed] at h
  omega
end Go.Proofs.YtedbbdeeofdepaaGreatDoor
end
