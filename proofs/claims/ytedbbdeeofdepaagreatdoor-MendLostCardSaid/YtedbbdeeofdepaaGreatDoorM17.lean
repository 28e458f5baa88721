import Derived.ChangeSame
import Derived.Test.YtedbbdeeofdepaaGreatDoorProg
import Derived.ReadAgain
import Derived.ChangeMaps5
import Derived.SliceStrings
import Derived.ChangeSlices
import Derived.WalkKit
import Derived.ProofKit
import Derived.OpenShut
import Derived.Lib.SmallJoins
import Derived.Test.YtedbbdeeofdepaaGreatDoorM2
import Derived.Test.YtedbbdeeofdepaaGreatDoorM16
section
/-! mend: MendLost. -/
namespace Go.Proofs.YtedbbdeeofdepaaGreatDoor
open Go.Sh Go.RowKit
set_option linter.unusedVariables false
set_option linter.unusedSimpArgs false
set_option maxRecDepth 20000
set_option maxHeartbeats 1000000
theorem lostK_yes {s : RwS} {bu : List Int} {K : Nat → Nat} {row : Int} {i : Nat} (h : K (colR s row i).toNat = 1) : lostK s bu K row i = true := by unfold lostK; rw [decide_eq_true h, Bool.or_true]
theorem lostK_no {s : RwS} {bu : List Int} {K : Nat → Nat} {row : Int} {i : Nat} (h : K (colR s row i).toNat ≠ 1) (hb : row < bu.getD (colR s row i).toNat 0) : lostK s bu K row i = false := by unfold lostK; rw [decide_eq_false h, decide_eq_false (by omega)]; rfl
theorem lost19_law {a b n2 n3 n4 : Int} (ha : 0 ≤ a ∧ a ≤ 255) (hb : 0 ≤ b ∧ b ≤ 255) (h2 : 0 ≤ n2 ∧ n2 ≤ 255) (h3 : 0 ≤ n3 ∧ n3 ≤ 255) (h4 : 0 ≤ n4 ∧ n4 ≤ 255) (w : World) :
    Ret Tryz.prog 7 #[.int .u8 a, .int .u8 b, .int .u8 n2, .int .u8 n3, .int .u8 n4] w (.bool true) := by
  refine ret_of (revetmentlaw19_MendLost_calls ?_)
  unfold revetmentlaw19_MendLost
  refine setup19 (d := 0) ha hb (by omega) (.refl w) fun gc gk gr N s ds k1 k2 w3 e1 e2 e3 hgeo hN hpos hMd hH hl H3 => ?_
  obtain ⟨ec, ek, er⟩ := hgeo
  have hgB : (4 ≤ gc ∧ gc ≤ 7) ∧ (1 ≤ gk ∧ gk ≤ 3) ∧ gr = 1 := by omega
  refine (shown19_spec w3).mono fun e w4 ⟨he4, hx4⟩ => ⟨_, he4, no rfl ?_⟩
  have H4 := H3.quiet hx4
  have c1 : ∀ {h : Kd} {w' : World}, Ow h [] w w' [blk k2 (rwC s gc.toNat gc.toNat) 30, blk k1 #[.int .i64 gc, .int .i64 gk, .int .i64 gr] 25] → w'.cell? ⟨k1, 0, none⟩ = some (.int .i64 gc) := fun h' => h'.ld (b := k1) (by repeat (first | exact List.Mem.head _ | refine List.Mem.tail _ ?_)) rfl
  have c2 : ∀ {h : Kd} {w' : World}, Ow h [] w w' [blk k2 (rwC s gc.toNat gc.toNat) 30, blk k1 #[.int .i64 gc, .int .i64 gk, .int .i64 gr] 25] → ∀ i v, (rwC s gc.toNat gc.toNat)[i]? = some v → w'.cell? ⟨k2, i, none⟩ = some v := fun h' i v hv => h'.ld (b := k2) (by repeat (first | exact List.Mem.head _ | refine List.Mem.tail _ ?_)) hv
  refine ⟨_, c1 H4, by omega, _, c1 H4, by omega, _, c1 H4, by omega, ?_⟩
  have tm : ∀ {x n : Int}, 0 ≤ x ∧ x ≤ 255 → Int.tmod (IntKind.i64.wrap x) n = x % n := fun {x n} hx => by
    rw [wrap64 x (by omega) (by omega), Int.tmod_eq_emod_of_nonneg hx.1]
  simp only [tm h2, tm h3, tm h4]
  have b2 : 0 ≤ n2 % gc ∧ n2 % gc < gc := ⟨Int.emod_nonneg _ (by omega), Int.emod_lt_of_pos _ (by omega)⟩
  have b3 : 0 ≤ n3 % gc ∧ n3 % gc < gc := ⟨Int.emod_nonneg _ (by omega), Int.emod_lt_of_pos _ (by omega)⟩
  have b4 : 0 ≤ n4 % gc ∧ n4 % gc < gc := ⟨Int.emod_nonneg _ (by omega), Int.emod_lt_of_pos _ (by omega)⟩
  generalize n2 % gc = x' at b2
  generalize n3 % gc = y' at b3
  generalize n4 % gc = z' at b4
  obtain ⟨c, hc⟩ : ∃ c : Nat, gc = (c : Int) := ⟨gc.toNat, by omega⟩
  obtain ⟨kk, hkk⟩ : ∃ c : Nat, gk = (c : Int) := ⟨gk.toNat, by omega⟩
  obtain ⟨x, rfl⟩ : ∃ c : Nat, x' = (c : Int) := ⟨x'.toNat, by omega⟩
  obtain ⟨y, rfl⟩ : ∃ c : Nat, y' = (c : Int) := ⟨y'.toNat, by omega⟩
  obtain ⟨z, rfl⟩ : ∃ c : Nat, z' = (c : Int) := ⟨z'.toNat, by omega⟩
  have hcn : gc.toNat = c := by omega
  rw [hcn] at hl hMd H4 c2
  have hsc : s.c = (c : Int) := by omega
  have hsk : s.k = (kk : Int) := by omega
  have hok := hMd.ok
  have hrow : 0 ≤ (0 : Int) ∧ (0 : Int) < s.r := by omega
  have hlb : (List.replicate c gr).length = c := List.length_replicate
  have hbB : ∀ i, i < c → (0 : Int) < (List.replicate c gr).getD i 0 := fun i hi => by rw [repl_getD hi]; omega
  have hz := zero_good (c := c) (m := 64) (by omega) (by omega)
  have hzl : (List.replicate c (List.replicate 64 (0 : UInt8))).length = c := List.length_replicate
  have hcolB : ∀ i : Nat, i < c → (colR s 0 i).toNat < c := fun i hi => by have := (colR_nat hok hrow (role := (i : Int)) (by omega)).2; omega
  clear H3 hx4 he4
  have A0 : ∀ {R : Value → World → Prop}, (∀ w', Ext w w' → R (.bool true) w') → Calls Tryz.prog 18 #[.agg (rwC s c c), .int .i64 0] w4 fun e w5 => ∃ n : Int, e = .returned (.int .i64 n) ∧ ((n == 0) = true → ∃ n0 : Int, ∃ n1 : Int, ∃ n2 : Int, ∃ (p3 : Option Addr) (l3 c3 : Nat), ∃ (p4 : Option Addr) (l4 c4 : Nat), (w5.cell? ⟨k2, 0, none⟩ = some (.int .i64 n0) ∧ w5.cell? ⟨k2, 1, none⟩ = some (.int .i64 n1) ∧ w5.cell? ⟨k2, 2, none⟩ = some (.int .i64 n2) ∧ w5.cell? ⟨k2, 3, none⟩ = some (.slice p3 l3 c3) ∧ w5.cell? ⟨k2, 4, none⟩ = some (.slice p4 l4 c4)) ∧
      Calls Tryz.prog 22 #[.agg #[.int .i64 n0, .int .i64 n1, .int .i64 n2, .slice p3 l3 c3, .slice p4 l4 c4], .int .i64 0, .int .i64 (x : Int)] w5 fun e w6 => ∃ m : Int, e = .returned (.int .i64 m) ∧ R (.bool (m == 0)) w6) ∧ ((n == 0) = false → R (.bool false) w5) := by
    intro R hR
    have hRs := resync19_spec (s := s) (bu := List.replicate c gr) (row := 0) (N := N) (M := 0) (kk := kk) (c := c) (K := fun _ => 0) (L := fun m => rwT s (fun _ _ => zeroSec) 0 m c) hsk hsc (by omega) (fun _ _ => rfl) hbB hrow (fun m hm => by rw [rwT_zero]; exact ⟨hzl, hz.all⟩) (mdD_zero hMd) H4
    rw [hl, hlb] at hRs
    refine hRs.mono fun e w5 ⟨he5, H5⟩ => ⟨_, he5, yes rfl ?_⟩
    obtain ⟨du, ⟨d, rfl, hD⟩, H5⟩ := so_open H5
    obtain ⟨f, hMf, hHf, hrw⟩ := mdD_end hD
    refine ⟨_, _, _, _, _, _, _, _, _, ⟨c2 H5 0 _ rfl, c2 H5 1 _ rfl, c2 H5 2 _ rfl, c2 H5 3 _ rfl, c2 H5 4 _ rfl⟩, ?_⟩
    obtain ⟨r, hr, hrc, hro⟩ := role_of hok hrow hsc (g := x) (by omega)
    have hno : misL (lostK s (List.replicate c gr) (fun _ => 0) 0) c = [] := misL_nil fun i hi => lostK_no (by decide) (hbB _ (hcolB i hi))
    have hRb := rebuild_good (s := s) (bu := List.replicate c gr) (row := 0) (N := N) (M := 0 + 2 * kk) (kk := kk) (c := c) (g := x) (r := r) (K := fun _ => 0) (f := f) (Lg := fun m => makeF ((rwT s (fun _ _ => zeroSec) 0 m c).take (c - 2))) hsk hsc (by omega) (fun _ _ => by decide) hrow (by omega) rfl hr hrc hro (fun m hm => ?_) hMf H5 (by rw [hno]; exact Nat.le_trans (appR_len _ _) (by simp))
    · rw [show (d.map flushO).length = c by have := hMf.len; omega, hlb] at hRb
      exact hRb.mono fun e w6 ⟨he6, H6⟩ => ⟨_, he6, hR w6 H6.ext⟩
    · have ha : AllLen ((rwT s (fun _ _ => zeroSec) 0 m c).take (c - 2)) 64 := fun j hj => by
        rw [List.length_take, rwT_len] at hj
        rw [take_get _ _ _ (by omega), rwT_zero]
        exact hz.all j (by omega)
      have hm2 := made_good ha (by rw [List.length_take, rwT_len]; omega) (by rw [List.length_take, rwT_len]; omega)
      exact ⟨hm2.1, by rw [hm2.2, List.length_take, rwT_len]; omega, fun i hi _ _ => by rw [hrw m hm]⟩
  refine ⟨beq_t fun _ => ?_, beq_f fun nxy => ⟨beq_t fun _ => ?_, beq_f fun nyz => ⟨beq_t fun _ => ?_, beq_f fun nxz => ?_⟩⟩⟩
  · rw [hcn] at *
    exact ⟨_, _, _, _, _, _, _, _, _, ⟨c2 H4 0 _ rfl, c2 H4 1 _ rfl, c2 H4 2 _ rfl, c2 H4 3 _ rfl, c2 H4 4 _ rfl⟩, A0 (R := fun v w' => v = Value.bool true ∧ Ext w w') fun w' hx => ⟨rfl, hx⟩⟩
  · rw [hcn] at *
    exact ⟨_, _, _, _, _, _, _, _, _, ⟨c2 H4 0 _ rfl, c2 H4 1 _ rfl, c2 H4 2 _ rfl, c2 H4 3 _ rfl, c2 H4 4 _ rfl⟩, A0 (R := fun v w' => v = Value.bool true ∧ Ext w w') fun w' hx => ⟨rfl, hx⟩⟩
  · rw [hcn] at *
    exact ⟨_, _, _, _, _, _, _, _, _, ⟨c2 H4 0 _ rfl, c2 H4 1 _ rfl, c2 H4 2 _ rfl, c2 H4 3 _ rfl, c2 H4 4 _ rfl⟩, A0 (R := fun v w' => v = Value.bool true ∧ Ext w w') fun w' hx => ⟨rfl, hx⟩⟩
  -- one is lost
  obtain ⟨ad, had, _⟩ := se_dcell H4 (List.getElem?_eq_getElem (show x < ds.length by omega))
  refine ⟨_, _, _, c2 H4 3 _ rfl, ad, had, by omega, by omega, ?_⟩
  rw [Int.toNat_natCast]
  refine se_none H4 had (by omega) fun w5 H5 => ?_
  have hM1 := hMd.put (i := x) (by omega) (y := none) (k := 1) (g := fun _ => zeroSec) (.inr (.inl ⟨rfl, rfl⟩))
  have hf1 : (fun j => if j = x then (fun _ => zeroSec) else (fun (_ _ : Nat) => zeroSec) j) = fun (_ _ : Nat) => zeroSec := by
    funext j
    split <;> rfl
  rw [hf1] at hM1
  generalize hd1 : ds.set x none = d1 at hM1 H5
  have hl1 : d1.length = c := by rw [← hd1, List.length_set]; exact hl
  generalize hK1 : (fun j => if j = x then 1 else (fun _ => 0) j) = K1 at hM1
  have k1x : K1 x = 1 := by rw [← hK1]; simp
  have k1n : ∀ j, j ≠ x → K1 j = 0 := fun j hj => by rw [← hK1]; simp [hj]
  have k12 : ∀ j, j < c → K1 j ≠ 2 := fun j _ => by
    by_cases e : j = x
    · rw [e, k1x]; decide
    · rw [k1n j e]; decide
  obtain ⟨rx, hrx, hrxc, hrxo⟩ := role_of hok hrow hsc (g := x) (by omega)
  obtain ⟨ry, hry, hryc, hryo⟩ := role_of hok hrow hsc (g := y) (by omega)
  obtain ⟨rz, hrz, hrzc, hrzo⟩ := role_of hok hrow hsc (g := z) (by omega)
  have hinj : ∀ i j : Nat, i < c → j < c → (colR s 0 i).toNat = (colR s 0 j).toNat → i = j := fun i j hi hj h => col_role hok hrow hsc hi hj h
  have hLz : ∀ (K : Nat → Nat) (m : Nat) (r : Nat), GoodL (List.replicate c (List.replicate 64 (0 : UInt8))) 64 ∧ (List.replicate c (List.replicate 64 (0 : UInt8))).length = c ∧ ∀ i, i < c → i ≠ r → lostK s (List.replicate c gr) K 0 i = false → (rwT s (fun _ _ => zeroSec) 0 m c).getD i [] = (List.replicate c (List.replicate 64 (0 : UInt8))).getD i [] := fun K m r => ⟨hz, hzl, fun i hi _ _ => by rw [rwT_zero]⟩
  have hl1le : (misL (lostK s (List.replicate c gr) K1 0) c).length ≤ 1 := misL_most (S := [x]) hinj fun i hi hp => by
    by_cases e : (colR s 0 i).toNat = x
    · simp [e]
    · rw [lostK_no (by rw [k1n _ e]; decide) (hbB _ (hcolB i hi))] at hp; cases hp
  have hmem : ∀ {K : Nat → Nat} {i : Nat}, i < c → K (colR s 0 i).toNat = 1 → (i : Int) ∈ misL (lostK s (List.replicate c gr) K 0) c := fun hi h => misL_mem.2 ⟨_, rfl, hi, lostK_yes h⟩
  have hpos1 : 0 < (misL (lostK s (List.replicate c gr) K1 0) c).length := List.length_pos_of_mem (hmem hrx (by rw [hrxc]; exact k1x))
  have hR1 := hM1.read hrow (off := 0) (by omega) hsc (fun i hi e => absurd e (k12 i hi))
  refine ⟨_, _, _, _, _, _, _, _, _, ⟨c2 H5 0 _ rfl, c2 H5 1 _ rfl, c2 H5 2 _ rfl, c2 H5 3 _ rfl, c2 H5 4 _ rfl⟩, ?_⟩
  have hCh := check19_lost (by omega) hpos1 hM1.may (hM1.few.mono (by omega)) H5 hrow hR1
  rw [hl1, hlb] at hCh
  refine hCh.mono fun e w6 ⟨he6, H6⟩ => ⟨_, _, he6, ?_⟩
  refine ⟨_, _, _, _, _, _, _, _, _, ⟨c2 H6 0 _ rfl, c2 H6 1 _ rfl, c2 H6 2 _ rfl, c2 H6 3 _ rfl, c2 H6 4 _ rfl⟩, ?_⟩
  have hRe := repair19_lost (by omega) hpos1 hM1.may (hM1.few.mono (by omega)) H6 hrow hR1
  rw [hl1, hlb] at hRe
  refine hRe.mono fun e w7 ⟨he7, H7⟩ => ⟨_, _, _, he7, no rfl (no rfl ?_)⟩
  refine ⟨_, _, _, _, _, _, _, _, _, ⟨c2 H7 0 _ rfl, c2 H7 1 _ rfl, c2 H7 2 _ rfl, c2 H7 3 _ rfl, c2 H7 4 _ rfl⟩, ?_⟩
  have hRs := resync19_lost (by omega) hpos1 hM1.may (hM1.few.mono (by omega)) H7 hrow hR1
  rw [hl1, hlb] at hRs
  refine hRs.mono fun e w8 ⟨he8, H8⟩ => ⟨_, he8, no rfl ?_⟩
  refine ⟨_, _, _, _, _, _, _, _, _, ⟨c2 H8 0 _ rfl, c2 H8 1 _ rfl, c2 H8 2 _ rfl, c2 H8 3 _ rfl, c2 H8 4 _ rfl⟩, ?_⟩
  have hRb := rebuild_good (s := s) (bu := List.replicate c gr) (row := 0) (N := N) (M := 0) (kk := kk) (c := c) (g := y) (r := ry) (K := K1) (f := fun _ _ => zeroSec) (Lg := fun _ => List.replicate c (List.replicate 64 0)) hsk hsc (by omega) k12 hrow (by omega) (k1n y (by omega)) hry hryc hryo (fun m _ => hLz K1 m ry) hM1 H8 (Nat.le_trans (appR_len _ _) (by omega))
  rw [hl1, hlb] at hRb
  refine hRb.mono fun e w9 ⟨he9, H9⟩ => ⟨_, he9, no rfl ?_⟩
  obtain ⟨d2, ⟨f2, hM2, hH2, hrw2, hf2⟩, H9⟩ := so_open H9
  have hl2 : d2.length = c := by have := hM2.len; omega
  refine ⟨_, _, _, _, _, _, _, _, _, ⟨c2 H9 0 _ rfl, c2 H9 1 _ rfl, c2 H9 2 _ rfl, c2 H9 3 _ rfl, c2 H9 4 _ rfl⟩, ?_⟩
  have hRn := rebuild_nil (g := x) (by omega) hrow (by omega) k1x hM2 H9
  rw [hl2, hlb] at hRn
  refine hRn.mono fun e w10 ⟨he10, H10⟩ => ⟨_, he10, no rfl ?_⟩
  -- one more is lost
  refine ⟨_, _, _, c2 H10 3 _ rfl, ad, had, by omega, by omega, ?_⟩
  rw [Int.toNat_natCast]
  refine se_none H10 had (by omega) fun w11 H11 => ?_
  have hM3 := hM2.put (i := z) (by omega) (y := none) (k := 1) (g := fun _ => zeroSec) (.inr (.inl ⟨rfl, rfl⟩))
  generalize hd3 : d2.set z none = d3 at hM3 H11
  have hl3 : d3.length = c := by rw [← hd3, List.length_set]; exact hl2
  generalize hK3 : (fun j => if j = z then 1 else K1 j) = K3 at hM3
  generalize hf3 : (fun j => if j = z then (fun _ => zeroSec) else f2 j) = f3 at hM3
  have k3z : K3 z = 1 := by rw [← hK3]; simp
  have k3x : K3 x = 1 := by rw [← hK3]; show (if x = z then 1 else K1 x) = 1; rw [if_neg (by omega)]; exact k1x
  have k3y : K3 y = 0 := by rw [← hK3]; show (if y = z then 1 else K1 y) = 0; rw [if_neg (by omega)]; exact k1n y (by omega)
  have k32 : ∀ j, j < c → K3 j ≠ 2 := fun j hj => by
    rw [← hK3]
    show (if j = z then 1 else K1 j) ≠ 2
    split
    · decide
    · exact k12 j hj
  have hL3 : GoodL (List.replicate c (List.replicate 64 (0 : UInt8))) 64 ∧ (List.replicate c (List.replicate 64 (0 : UInt8))).length = c ∧ ∀ i, i < c → i ≠ ry → lostK s (List.replicate c gr) K3 0 i = false → (rwT s f3 0 (0 : Nat) c).getD i [] = (List.replicate c (List.replicate 64 (0 : UInt8))).getD i [] := by
    refine ⟨hz, hzl, fun i hi hne _ => ?_⟩
    have e1 : f3 (colR s 0 i).toNat = fun _ => zeroSec := by
      rw [← hf3]
      show (if (colR s 0 i).toNat = z then (fun _ => zeroSec) else f2 (colR s 0 i).toNat) = _
      split
      · rfl
      · funext j
        exact hf2 _ j fun e => hne (hinj i ry hi hry (by rw [hryc]; exact e))
    rw [rwT_get _ _ _ _ hi, e1]
    show zeroSec.data.toList = _
    rw [zero_txt, List.getD_eq_getElem?_getD, List.getElem?_replicate, if_pos hi]; rfl
  have h3r : 2 < (appR (misL (lostK s (List.replicate c gr) K3 0) c) ry).length := by
    have hx3 := hmem (K := K3) hrx (by rw [hrxc]; exact k3x)
    have hz3 := hmem (K := K3) hrz (by rw [hrzc]; exact k3z)
    have n1 : rx ≠ rz := fun e => by
      subst e
      omega
    have n2 : rx ≠ ry := fun e => by
      subst e
      omega
    have n3 : rz ≠ ry := fun e => by
      subst e
      omega
    exact three_in (appR_mem.2 (.inl hx3)) (appR_mem.2 (.inl hz3)) (appR_mem.2 (.inr rfl)) (by omega) (by omega) (by omega)
  refine ⟨_, _, _, _, _, _, _, _, _, ⟨c2 H11 0 _ rfl, c2 H11 1 _ rfl, c2 H11 2 _ rfl, c2 H11 3 _ rfl, c2 H11 4 _ rfl⟩, ?_⟩
  have hRm := rebuild_many (s := s) (bu := List.replicate c gr) (row := 0) (kk := kk) (c := c) (g := y) (r := ry) (K := K3) (f := f3) (Lg := fun _ => List.replicate c (List.replicate 64 0)) hsk (by omega) hsc (by omega) k32 hrow (by omega) k3y hry hryo hL3 hM3 H11 h3r
  rw [hl3, hlb] at hRm
  refine hRm.mono fun e w12 ⟨he12, H12⟩ => ⟨_, he12, yes rfl ?_⟩
  obtain ⟨d4, e4, H12⟩ := so_open H12
  rw [e4] at H12
  refine ⟨_, _, _, _, _, _, _, _, _, ⟨c2 H12 0 _ rfl, c2 H12 1 _ rfl, c2 H12 2 _ rfl, c2 H12 3 _ rfl, c2 H12 4 _ rfl⟩, ?_⟩
  have hRr := rebuild_range (row := 1) (col := (y : Int)) (by omega) (by omega) (.inl (by omega)) hM3 H12
  rw [hl3, hlb] at hRr
  refine hRr.mono fun e w13 ⟨he13, H13⟩ => ⟨_, he13, yes rfl ?_⟩
  refine ⟨_, _, _, _, _, _, _, _, _, ⟨c2 H13 0 _ rfl, c2 H13 1 _ rfl, c2 H13 2 _ rfl, c2 H13 3 _ rfl, c2 H13 4 _ rfl⟩, _, c1 (by rw [hcn]; exact H13), ?_⟩
  have hRq := rebuild_range (row := 0) (col := gc) (by omega) (by omega) (.inr (by omega)) hM3 H13
  rw [hl3, hlb] at hRq
  exact hRq.mono fun e w14 ⟨he14, H14⟩ => ⟨_, he14, rfl, H14.ext⟩
end Go.Proofs.YtedbbdeeofdepaaGreatDoor
end
section
/-! A row's end, of a call that makes no more than new memory. -/
namespace Go.Sh
open Go.RowKit Go.ChangeShapes Go.WideShapes
theorem Ext.kept {W W' : World} (h : Ext W W') (may : MemPlace → Prop) : W.keptBut W' may := by
  refine ⟨h.os, h.output, fun i hi => ?_⟩
  rw [h.heap i hi]
  cases hw : W.heap[i]? with
  | none => simp
  | some o => cases o <;> simp
theorem Ext.frozen {W W' : World} (h : Ext W W') {a : Addr} (ha : a.block < W.heap.size) : W'.frozen? a = W.frozen? a := by simp only [World.frozen?, h.heap _ ha]
theorem post_ext {P : Program} {H : Type} {enc : TypeId × Value → H} {f : Func} {s : ChangeSpec} {apart fresh handsOn again : Bool} {W W' : World} {args : Array Value} {v : Value} {ds gs : List (DataW H)} {before pa pv : List MemPlace}
    (hW : DataW.Whole enc P f.params.toList s.vars apart W args.toList ds gs before)
    (hres : ∀ (b : Nat) (sp : Nat → Bool) (hd : Bool), DataW.TrodAll enc P W' b sp hd f.resultTypes.toList (v.resultList f.resultTypes.size) (s.fn H (ds ++ gs)).results [])
    (hargs : ∀ sp : Nat → Bool, (∀ p ∈ before, sp p.block = true) → DataW.TrodAll enc P W' 0 sp true f.params.toList args.toList (s.fn H (ds ++ gs)).args pa)
    (hvars : ∀ sp : Nat → Bool, (∀ p ∈ before, sp p.block = true) → DataW.TrodVars enc P W' sp s.vars (s.fn H (ds ++ gs)).vars pv)
    (hps : before = pa ++ pv) (hx : Ext W W')
    (hok : ∀ (j : Nat) (t : TypeId) (r : Value), f.resultTypes[j]? = some t → (v.resultList f.resultTypes.size)[j]? = some r → Value.okWide P W' .any 0 t r) :
    s.post enc P f apart fresh handsOn again W args v W' := by
  have hlt : ∀ p ∈ before, p.block < W.heap.size := hW.lt
  have hold : ∀ p ∈ before, (fun b => decide (b < W.heap.size)) p.block = true := fun p hp => by simpa using hlt p hp
  refine ⟨ds, gs, before, [], pa, pv, hW, hres _ _ _, hargs _ hold, hvars _ hold, World.keptBut_mono (fun p hp => ⟨hp, ?_⟩) (hx.kept (· ∈ before)), fun _ => ?_⟩
  · rw [hps, List.mem_append] at hp
    exact Or.inr hp
  · obtain ⟨_, _, _, _, _, hz, hn⟩ := hW
    refine ⟨hok, _, _, ([] ++ pa) ++ pv, ⟨[] ++ pa, pv, trodAll_append (hargs _ (fun _ _ => rfl)) (hres _ _ _), hvars _ (fun _ _ => rfl), rfl, ?_, ?_⟩, ?_⟩
    · intro b off hp
      have hb : (MemPlace.cell b off) ∈ before := by rw [hps]; simpa using hp
      rw [hx.frozen (hlt _ hb)]
      exact hz b off hb
    · intro ha
      have := hn ha
      rw [hps] at this
      simpa using this
    · intro p hp _
      rw [hps]
      simpa using hp
theorem u8_of {a : Int} (h : (Lit.int .u8 a).wf = true) : 0 ≤ a ∧ a ≤ 255 := by
  simp [Lit.wf, IntKind.min, IntKind.max, IntKind.bits, IntKind.signed] at h
  omega
theorem u16_of {a : Int} (h : (Lit.int .u16 a).wf = true) : 0 ≤ a ∧ a ≤ 65535 := by
  simp [Lit.wf, IntKind.min, IntKind.max, IntKind.bits, IntKind.signed] at h
  omega
theorem i64_of {a : Int} (h : (Lit.int .i64 a).wf = true) : -9223372036854775808 ≤ a ∧ a ≤ 9223372036854775807 := by
  simp [Lit.wf, IntKind.min, IntKind.max, IntKind.bits, IntKind.signed] at h
  omega
end Go.Sh
end
section
/-! A law's row: what its arguments tell, and that they read as they did. -/
namespace Go.Sh
open Go.ChangeShapes Go.WideShapes Go.ChangeAt Go.RowKit
set_option linter.unusedVariables false
theorem Ext.same {W W' : World} (h : Ext W W') {p : MemPlace} (hp : p.block < W.heap.size) : W.sameAt W' p := by
  cases p with
  | cell b o => show W'.cell? ⟨b, o, none⟩ = W.cell? ⟨b, o, none⟩; unfold World.cell?; rw [h.heap b hp]
  | map b => show W'.heap[b]? = W.heap[b]?; exact h.heap b hp
theorem trodAll_carry {H : Type} {enc : TypeId × Value → H} {P : Program} {W W' : World} {sp : Nat → Bool} : ∀ {ts : List TypeId} {vs : List Value} {ds : List (DataW H)} {ps : List MemPlace}, DataW.TrodAll enc P W 0 sp true ts vs ds ps → (∀ p ∈ ps, W.sameAt W' p) → DataW.TrodAll enc P W' 0 sp true ts vs ds ps
  | [], [], [], _, h, _ => h
  | _ :: _, _ :: _, _ :: _, _, ⟨p, q, ⟨n, h1⟩, h2, e⟩, hs => ⟨p, q, ⟨n, DataW.trod_carry n _ _ _ h1 fun x hx => hs x (by rw [e]; exact List.mem_append_left _ hx)⟩, trodAll_carry h2 fun x hx => hs x (by rw [e]; exact List.mem_append_right _ hx), e⟩
theorem law_post {P : Program} {H : Type} {enc : TypeId × Value → H} {f : Func} {s : ChangeSpec} {apart fresh handsOn again : Bool} {W W' : World} {args : Array Value} {ds gs : List (DataW H)} {before : List MemPlace} {tb : TypeId}
    (hl : laidOutB P = true) (hm : mapsRowed P = true) (hz : ((List.range P.types.size).all fun t => match P.underlying t with | some (.slice e) => decide (0 < P.cellsOf e) | _ => true) = true) (htp : (f.params.toList.all fun t => decide (t < P.types.size)) = true)
    (hW : DataW.Whole enc P f.params.toList s.vars apart W args.toList ds gs before) (hv : s.vars = []) (hargs : (s.fn H (ds ++ gs)).args = ds) (hres : (s.fn H (ds ++ gs)).results = [.lit (.bool true)]) (hvars : (s.fn H (ds ++ gs)).vars = [])
    (hrt : f.resultTypes = #[tb]) (htb : P.underlying tb = some .bool) (hx : Ext W W') : s.post enc P f apart fresh handsOn again W args (.bool true) W' := by
  have hlt := hW.lt
  have hW' := hW
  obtain ⟨p, q, hA, hV, rfl, hfz, hnd⟩ := hW
  rw [hv] at hV
  obtain ⟨rfl, rfl⟩ := trodVars_none hV
  rw [List.append_nil] at hW' hlt
  have hT : ∀ t ∈ f.params.toList, t < P.types.size := fun t ht => by simpa using List.all_eq_true.1 htp t ht
  refine post_ext (pa := p) (pv := []) hW' (fun _ _ _ => ?_) (fun sp hsp => ?_) (fun sp _ => ?_) (by simp) hx ?_
  · rw [hres, hrt]
    exact trodAll_cons_mk (shut_bool htb _) trodAll_mk0
  · rw [hargs]
    exact DataW.TrodAll.respare (kids_rows hl hm) (slices_full_of P hz) hT (trodAll_carry hA fun x hx' => hx.same (hlt x hx')) hsp
  · rw [hvars, hv]; rfl
  · exact ok_one hrt rfl (okWide_bool_mk htb _)
section
variable {P : Program} {H : Type} {enc : TypeId × Value → H} {w : World} {t e : TypeId} {v : Value} {d : DataW H} {ps : List MemPlace} {r : Reach} {b0 : Nat}
theorem open_strs (ht : P.underlying t = some (.slice e)) (he : P.underlying e = some .string) (hc : P.cellsOf e = 1) (hval : Value.okWide P w r b0 t v) (hd : DataW.Trod enc P w 0 (fun _ => true) true t v d ps) :
    ∃ (p : Option Addr) (c : Nat) (l : List ByteArray), v = .slice p l.length c ∧ (l ≠ [] → ∃ a, p = some a) ∧ (∀ a, p = some a → ∀ j s, l[j]? = some s → w.cell? (a.add j) = some (.string s)) ∧ ∀ s ∈ l, s.size ≤ maxLen := by
  obtain ⟨a0, len, cap, rfl⟩ := okWide_slice ht hval
  obtain ⟨fuel, hf⟩ := hd
  rcases open_strings ht he hc hf with ⟨h0, -⟩ | ⟨a, len', cap', ss, h0, h1, h2, h3, h4, h5, h6, h7⟩
  · have : a0 = none ∧ len = 0 ∧ cap = 0 := by simpa [Value.cells] using h0
    obtain ⟨rfl, rfl, rfl⟩ := this
    exact ⟨none, 0, [], rfl, fun h => absurd rfl h, (fun a ha => by cases ha), fun s hs => by cases hs⟩
  · have : a0 = some a ∧ len = len' ∧ cap = cap' := by simpa [Value.cells] using h0
    obtain ⟨rfl, rfl, rfl⟩ := this
    simp only [if_true] at h4
    refine ⟨some a, cap, ss.take len, by rw [List.length_take]; congr 1; omega, fun _ => ⟨a, rfl⟩, fun a' ha' j s hs => ?_, fun s hs => h7 s (List.mem_of_mem_take hs)⟩
    cases ha'
    rw [List.getElem?_take] at hs
    split at hs
    · have hj := (List.getElem?_eq_some_iff.1 hs).1
      rw [h6 j hj, List.getD_eq_getElem?_getD, hs]; rfl
    · cases hs
theorem open_u8s (ht : P.underlying t = some (.slice e)) (he : P.underlying e = some (.int .u8)) (hc : P.cellsOf e = 1) (hval : Value.okWide P w r b0 t v) (hd : DataW.Trod enc P w 0 (fun _ => true) true t v d ps) :
    ∃ (p : Option Addr) (c : Nat) (l : List UInt8), v = .slice p l.length c ∧ (l ≠ [] → ∃ a, p = some a) ∧ (∀ a, p = some a → ∀ j (s : UInt8), l[j]? = some s → w.cell? (a.add j) = some (.int .u8 s.toNat)) := by
  obtain ⟨a0, len, cap, rfl⟩ := okWide_slice ht hval
  obtain ⟨fuel, hf⟩ := hd
  rcases open_ints ht he hc hf with ⟨h0, -⟩ | ⟨a, len', cap', ss, h0, h1, h2, h3, h4, h5, h6, h7⟩
  · have : a0 = none ∧ len = 0 ∧ cap = 0 := by simpa [Value.cells] using h0
    obtain ⟨rfl, rfl, rfl⟩ := this
    exact ⟨none, 0, [], rfl, fun h => absurd rfl h, (fun a ha => by cases ha)⟩
  · have : a0 = some a ∧ len = len' ∧ cap = cap' := by simpa [Value.cells] using h0
    obtain ⟨rfl, rfl, rfl⟩ := this
    simp only [if_true] at h4
    refine ⟨some a, cap, (ss.take len).map fun n => UInt8.ofNat n.toNat, by rw [List.length_map, List.length_take]; congr 1; omega, fun _ => ⟨a, rfl⟩, fun a' ha' j s hs => ?_⟩
    cases ha'
    rw [List.getElem?_map, List.getElem?_take] at hs
    split at hs
    · cases hz : ss[j]? with
      | none => rw [hz] at hs; cases hs
      | some z =>
        rw [hz] at hs
        simp only [Option.map_some, Option.some.injEq] at hs
        have hj := (List.getElem?_eq_some_iff.1 hz).1
        have hw := u8_of (h7 z (List.mem_of_getElem? hz))
        rw [h6 j hj, List.getD_eq_getElem?_getD, hz]
        have : ((UInt8.ofNat z.toNat).toNat : Int) = z := by simp; omega
        rw [← hs, this]; rfl
    · cases hs
end
end Go.Sh
namespace Go.Proofs.YtedbbdeeofdepaaGreatDoor
theorem own : ownKnob Tryz.prog.godebug = none := by kernel_rfl
theorem rows_laid : laidOutB Tryz.prog = true := by kernel_rfl
theorem rows_maps : mapsRowed Tryz.prog = true := by kernel_rfl
theorem rows_full : ((List.range Tryz.prog.types.size).all fun t => match Tryz.prog.underlying t with | some (.slice e) => decide (0 < Tryz.prog.cellsOf e) | _ => true) = true := by kernel_rfl
end Go.Proofs.YtedbbdeeofdepaaGreatDoor
end
section
/-! A law's row: bytes as numbers. -/
namespace Go.Proofs.YtedbbdeeofdepaaGreatDoor
open Go.ChangeShapes Go.WideShapes Go.ChangeAt Go.RowKit Go.Sh
theorem u8_of {a : Int} (h : (Lit.int .u8 a).wf = true) : 0 ≤ a ∧ a < 256 := by
  simp [Lit.wf, IntKind.min, IntKind.max, IntKind.bits, IntKind.signed] at h
  omega
end Go.Proofs.YtedbbdeeofdepaaGreatDoor
end
