import Derived.Test.YtdppllkjibfjcaaSo7
/-! slots: SlotsNext. -/
namespace Go.Proofs.Ytdppllkjibfjcaa
open Go.Sh Go.RowKit
set_option linter.unusedVariables false
set_option linter.unusedSimpArgs false
set_option maxRecDepth 20000
set_option maxHeartbeats 2000000
/-- the slots behind i calls -/
structure SN (at_ u : Int) (i : Nat) (f : Nat → ByteArray) (last prev : SupV) (pb : Bool) : Prop where
  c0 : Cont (f ((at_ + i) % 2).toNat) last (decide (0 < i))
  c1 : Cont (f (1 - ((at_ + i) % 2).toNat)) prev pb
  pe : pb = true → prev.events = at_ + i - 1
  le : 0 < i → last.events = at_ + i
  p0 : i = 0 → pb = false
theorem Cont.none {t : ByteArray} {s : SupV} (h : Cont t s false) : s = sup0 := by cases h; rfl
theorem par_cases (z : Int) : (z % 2).toNat = 0 ∨ (z % 2).toNat = 1 := by omega
theorem SN.load {at_ u : Int} {i : Nat} {f : Nat → ByteArray} {last prev : SupV} {pb : Bool} (h : SN at_ u i f last prev pb) :
    ∃ s0 b0 s1 b1 old e0, Cont (f 0) s0 b0 ∧ Cont (f 1) s1 b1 ∧ loadS s0 b0 s1 b1 = (old, e0) ∧ (if e0 = 0 then old.events else at_ + i) = at_ + i := by
  by_cases hi : 0 < i
  · have c0 := h.c0
    rw [decide_eq_true hi] at c0
    obtain ⟨s0, b0, s1, b1, h0, h1, hl, _⟩ := load_par (par_cases _) c0 h.c1 fun hb => by rw [h.pe hb, h.le hi]; omega
    exact ⟨s0, b0, s1, b1, last, 0, h0, h1, hl, by rw [if_pos rfl, h.le hi]⟩
  · have c0 := h.c0
    have c1 := h.c1
    rw [decide_eq_false hi] at c0
    rw [h.p0 (by omega)] at c1
    obtain rfl := c0.none
    obtain rfl := c1.none
    rcases par_cases (at_ + i) with e | e
    · rw [e] at c0 c1
      exact ⟨sup0, false, sup0, false, sup0, 90, c0, c1, rfl, rfl⟩
    · rw [e] at c0 c1
      exact ⟨sup0, false, sup0, false, sup0, 90, c1, c0, rfl, rfl⟩
theorem byte_at {w : World} {q : Option Addr} {l : List UInt8} (h : bytesAt w q l) {i : Nat} (hi : i < l.length) : ∃ a, q = some a ∧ w.cell? (Addr.add a ((i : Int).toNat * 1)) = some (.int .u8 ((l[i].toNat : Nat) : Int)) := by
  obtain ⟨a, ha⟩ := h.1 (by intro e; rw [e] at hi; simp at hi)
  exact ⟨a, ha, by rw [Int.toNat_natCast, Nat.mul_one]; exact h.2 a ha i l[i] (by simp [hi])⟩
theorem next_law {u e : Int} (hu : 0 ≤ u ∧ u < 18446744073709551616) (hev : 0 ≤ e ∧ e < 18446744073709551616) (l : List UInt8) (q : Option Addr) (c : Nat) (spoil : Bool) (w : World) (hl : bytesAt w q l) :
    Ret Try.prog 10 #[.int .u64 u, .int .u64 e, .slice q l.length c, .bool spoil] w (.bool true) := by
  refine ret_of (revetmentlaw09_SlotsNext_calls ?_)
  unfold revetmentlaw09_SlotsNext
  refine ⟨dec_t fun _ => sshown_end (.refl w), dec_f fun hlen => ⟨beq_t fun _ => sshown_end (.refl w), beq_f fun hz => ?_⟩⟩
  refine (sshown_spec w).mono fun e_ w3 ⟨he, hx3⟩ => ⟨_, he, no rfl ?_⟩
  refine new_u (n := 2) ((T.nil w).quiet hx3) (by omega) fun d w5 h5 => ⟨_, rfl, no rfl ?_⟩
  have hat := mod60 hev
  generalize Int.tmod e 1152921504606846976 = at_ at hat
  refine Dr.alloc h5 fun k10 w6 h6 => Dr.st10 (x := sup0) (y := sup0) h6 fun w7 h7 => ?_
  refine ⟨fun vs w' => ∃ (i : Nat) (a : AD) (f : Nat → ByteArray) (last prev : SupV) (pb : Bool), vs = [.int .u64 (at_ + i), .int .i64 (i : Int)] ∧ i ≤ l.length ∧ Dr d a [] w w' [blk k10 (supC last) 58] ∧ a.Hold 2 f ∧ SN at_ u i f last prev pb, fun vs _ => match vs with | [_, .int _ i] => (l.length - i).toNat | _ => 0,
    ⟨0, AD.new 2, fun _ => zeroSec, sup0, sup0, false, by rw [Int.natCast_zero, Int.add_zero], by omega, h7, hold_new 2, ⟨cont_zero, cont_zero, fun h => (by cases h), fun h => absurd h (by omega), fun _ => rfl⟩⟩, ?_⟩
  rintro vs w17 ⟨i, a, f, last, prev, pb, rfl, hi, h17, hh, hsn⟩
  refine ⟨_, _, rfl, dec_t fun hlt => ?_, dec_f fun hge => ⟨rfl, h17.ext⟩⟩
  have hlt : i < l.length := by omega
  obtain ⟨a52, ha52, hc52⟩ := byte_at (hl.ext h17.ext) hlt
  have hbt := l[i].toNat_lt
  have hr : 0 ≤ ((l[i].toNat : Nat) : Int) ∧ ((l[i].toNat : Nat) : Int) < 256 := by omega
  have byD : ∀ {w' : World} {X : List A} {a' : AD}, Dr d a' [] w w' X → w'.cell? (Addr.add a52 ((i : Int).toNat * 1)) = some (.int .u8 ((l[i].toNat : Nat) : Int)) := fun hd => cell_ext (w := w) hd.ext (by
    obtain ⟨a', h1, h2⟩ := byte_at hl hlt
    rw [ha52] at h1; cases h1; exact h2)
  generalize ((l[i].toNat : Nat) : Int) = r at hr hc52 byD
  have hwr : IntKind.u64.wrap (at_ + i + 1) = at_ + i + 1 := by rw [wrapU64]; omega
  have hwi : IntKind.i64.wrap ((i : Int) + 1) = ((i + 1 : Nat) : Int) := by rw [wrap64 _ (by omega) (by omega)]; omega
  refine ⟨a52, ha52, by omega, by omega, r, hc52, ?_⟩
  refine (some_spec (u := u) (e := at_ + i) (r := r) hr w17).mono fun e_ w18 ⟨he, hx18⟩ => ⟨_, _, _, _, _, _, _, _, _, _, he, ?_⟩
  obtain ⟨s0, b0, s1, b1, old, e0, hc0, hc1, hload, hold⟩ := hsn.load
  have mS : MayS (someS u (at_ + i + 1) r) := someS_may hu (by omega)
  have hs' : someS u (at_ + i + 1) r = { someS u (at_ + i) r with events := (if e0 = 0 then old.events else (someS u (at_ + i) r).events) + 1 } := by
    have : (if e0 = 0 then old.events else (someS u (at_ + i) r).events) = at_ + i := hold
    rw [this]; rfl
  refine next_u (h17.quiet hx18) hh (by omega) hc0 hc1 hload hs' mS fun a' w19 h19 hH => ⟨_, _, _, _, _, _, _, _, _, _, _, rfl, ?_⟩
  have hevs : (someS u (at_ + i + 1) r).events = at_ + i + 1 := rfl
  rw [hevs] at hH
  generalize hS : someS u (at_ + i + 1) r = S at *
  have hx01 := par_cases (at_ + i + 1)
  have hxo : 1 - ((at_ + i + 1) % 2).toNat = ((at_ + i) % 2).toNat := by omega
  have hxo2 : ((at_ + i + 1) % 2).toNat = 1 - ((at_ + i) % 2).toNat := by omega
  generalize hf' : (fun j => if j = ((at_ + i + 1) % 2).toNat then strB (encS S) else f j) = f' at hH
  have cx : Cont (f' ((at_ + i + 1) % 2).toNat) S true := by rw [← hf']; simp only [if_true]; exact cont_enc mS
  have co : Cont (f' (1 - ((at_ + i + 1) % 2).toNat)) last (decide (0 < i)) := by
    rw [← hf']
    simp only
    rw [if_neg (by omega), hxo]
    exact hsn.c0
  have hlast : decide (0 < i) = true → last.events < S.events := fun h => by rw [hsn.le (of_decide_eq_true h), hevs]; omega
  obtain ⟨t0, d0, t1, d1, g0, g1, hl2, hpos⟩ := load_par hx01 cx co hlast
  refine Dr.alloc h19 fun k13 w20 h20 => Dr.st10 (x := sup0) (y := S) h20 fun w21 h21 => ?_
  refine ⟨fun w' => Dr d a' [] w w' [blk k13 (supC S) 58, blk k10 (supC last) 58], drew_dr h21, no rfl (rd10D (a := S) (t := 58) (fun w' hd => ⟨_, _, _, hd.under, (by first | exact List.Mem.head _ | exact List.Mem.tail _ (List.Mem.head _) | exact List.Mem.tail _ (List.Mem.tail _ (List.Mem.head _)) | exact List.Mem.tail _ (List.Mem.tail _ (List.Mem.tail _ (List.Mem.head _))) | exact List.Mem.tail _ (List.Mem.tail _ (List.Mem.tail _ (List.Mem.tail _ (List.Mem.head _)))) | exact List.Mem.tail _ (List.Mem.tail _ (List.Mem.tail _ (List.Mem.tail _ (List.Mem.tail _ (List.Mem.head _))))) | exact List.Mem.tail _ (List.Mem.tail _ (List.Mem.tail _ (List.Mem.tail _ (List.Mem.tail _ (List.Mem.tail _ (List.Mem.head _)))))) | exact List.Mem.tail _ (List.Mem.tail _ (List.Mem.tail _ (List.Mem.tail _ (List.Mem.tail _ (List.Mem.tail _ (List.Mem.tail _ (List.Mem.head _))))))) | exact List.Mem.tail _ (List.Mem.tail _ (List.Mem.tail _ (List.Mem.tail _ (List.Mem.tail _ (List.Mem.tail _ (List.Mem.tail _ (List.Mem.tail _ (List.Mem.head _)))))))) | exact List.Mem.tail _ (List.Mem.tail _ (List.Mem.tail _ (List.Mem.tail _ (List.Mem.tail _ (List.Mem.tail _ (List.Mem.tail _ (List.Mem.tail _ (List.Mem.tail _ (List.Mem.head _))))))))) | exact List.Mem.tail _ (List.Mem.tail _ (List.Mem.tail _ (List.Mem.tail _ (List.Mem.tail _ (List.Mem.tail _ (List.Mem.tail _ (List.Mem.tail _ (List.Mem.tail _ (List.Mem.tail _ (List.Mem.head _)))))))))) | exact List.Mem.tail _ (List.Mem.tail _ (List.Mem.tail _ (List.Mem.tail _ (List.Mem.tail _ (List.Mem.tail _ (List.Mem.tail _ (List.Mem.tail _ (List.Mem.tail _ (List.Mem.tail _ (List.Mem.tail _ (List.Mem.head _))))))))))))⟩) ⟨a52, ha52, by omega, by omega, r, fun w' hd => byD hd, ?_⟩)⟩
  rw [hwr]
  refine (some_spec (u := u) (e := at_ + i + 1) (r := r) hr _).mono fun e_ w31 ⟨he, hx31⟩ => ?_
  rw [hS] at he
  have h31 := (drew_dr h21).quiet hx31
  have neqS : ∀ (s : SupV) (x y : Operand) (w' : World), (do eqGuard .neq 58 x y (.agg (supC s)) (.agg (supC s)); binOp .neq 58 (.agg (supC s)) (.agg (supC s)) : Sem Value).run Try.prog w' = .ok (.bool false) w' := fun s x y w' => by
    have := neq_sup s s x y w'
    rwa [decide_eq_true rfl] at this
  refine ⟨_, _, _, _, _, _, _, _, _, _, he, h31, false, fun w' _ => neqS S _ _ w', no rfl ?_⟩
  refine load_u (s := S) (e := 0) h31 hH (by omega) g0 g1 hl2 fun w32 h32 => ⟨_, _, _, _, _, _, _, _, _, _, _, rfl, ?_⟩
  refine Dr.alloc h32 fun k15 w33 h33 => Dr.st10 (x := sup0) (y := S) h33 fun w43 h43 => ?_
  refine (both_spec h43 (hH.few _) (hH.slot (i := 0) (by omega) g0) (hH.slot (i := 1) (by omega) g1)).mono fun e_ w44 ⟨he, hx44⟩ => ⟨_, _, _, _, _, _, _, _, _, _, _, _, _, _, _, _, _, _, _, _, _, _, he, ?_⟩
  refine Dr.alloc (h43.quiet hx44) fun k17 w45 h45 => Dr.alloc h45 fun k18 w46 h46 => ?_
  have h46 : Dr d a' [] w w46 (blk k17 (sup2C sup0 sup0) 67 :: blk k18 #[.bool false, .bool false] 68 :: [blk k15 (supC S) 58, blk k13 (supC S) 58, blk k10 (supC last) 58]) := h46.perm (.swap _ _ _)
  refine h46.into fun Γ hT hback => st20 (a := sup0) (b := sup0) (c := t0) (e := t1) hT fun w47 hT47 => ?_
  have h47 := (hback _ _ hT47).perm (.swap _ _ _)
  refine Dr.st1 (c' := #[.bool d0, .bool false]) h47 (show 0 < 2 by decide) rfl rfl fun w48 h48 => Dr.st1 (c' := #[.bool d0, .bool d1]) h48 (show 1 < 2 by decide) rfl rfl fun w68 h68 => Join.intro fun J hJ => ?_
  have e1 : at_ + ((i + 1 : Nat) : Int) = at_ + i + 1 := by omega
  have sn' : SN at_ u (i + 1) f' S last (decide (0 < i)) := by
    refine ⟨?_, ?_, fun hb => ?_, fun _ => ?_, fun h => absurd h (by omega)⟩
    · rw [e1, decide_eq_true (by omega)]; exact cx
    · rw [e1]; exact co
    · rw [e1, hsn.le (of_decide_eq_true hb)]; omega
    · rw [e1]; exact hevs
  have eqL : [Value.int .u64 (at_ + i + 1), .int .i64 (IntKind.i64.wrap ((i : Int) + 1))] = [.int .u64 (at_ + ((i + 1 : Nat) : Int)), .int .i64 ((i + 1 : Nat) : Int)] := by rw [e1, hwi]
  have msr : ((l.length : Int) - IntKind.i64.wrap ((i : Int) + 1)).toNat < ((l.length : Int) - (i : Int)).toNat := by rw [hwi]; omega
  have main : ∀ w69, Dr d a' [] w w69 (blk k18 #[.bool d0, .bool d1] 68 :: blk k17 (sup2C t0 t1) 67 :: [blk k15 (supC S) 58, blk k13 (supC S) 58, blk k10 (supC last) 58]) → J [] w69 := by
    intro w69 h69
    have h70 : Dr d a' [] w w69 (blk k10 (supC last) 58 :: _) := h69.perm (Pick.perm (.tail (.tail (.tail (.tail .head)))))
    refine hJ _ _ ⟨rfl, fun _ => ⟨dec_t fun hi0 => ⟨fun hsp => ?_, fun _ => ?_⟩, dec_f fun _ => ?_⟩, fun _ => ?_⟩
    · have hw2 : IntKind.i64.wrap (Int.tmod (at_ + i + 1) 2) = ((((at_ + i + 1) % 2).toNat : Nat) : Int) := by
        rw [Int.tmod_eq_emod_of_nonneg (by omega), wrap64 _ (by omega) (by omega)]; omega
      rw [hw2]
      have hi0 : 0 < i := by omega
      rw [decide_eq_true hi0] at co
      have hxl : ((at_ + i + 1) % 2).toNat < 2 := by omega
      obtain ⟨q0, q1⟩ := hH.spoil hxl
      have qo := q1 (1 - ((at_ + i + 1) % 2).toNat) (by omega) (by omega) co
      refine spoil_u h69 (hH.on.may (by omega)) fun w70 h70 => ⟨_, rfl, ?_⟩
      have hld : ∃ s0 b0 s1 b1, SlotAt (a'.spoil ((((at_ + i + 1) % 2).toNat : Nat) : Int)) 0 s0 b0 ∧ SlotAt (a'.spoil ((((at_ + i + 1) % 2).toNat : Nat) : Int)) 1 s1 b1 ∧ loadS s0 b0 s1 b1 = (last, 0) := by
        rcases hx01 with e | e
        · rw [e] at q0 qo ⊢
          exact ⟨sup0, false, last, true, q0, qo, rfl⟩
        · rw [e] at q0 qo ⊢
          exact ⟨last, true, sup0, false, qo, q0, rfl⟩
      obtain ⟨v0, z0, v1, z1, y0, y1, hl3⟩ := hld
      have hload3 := load_spec h70 ((hH.few 1000000).spoil _) (hH.on.spoil _).dead y0 y1
      rw [hl3] at hload3
      refine hload3.mono fun e_ w71 ⟨he, hx71⟩ => ⟨_, _, _, _, _, _, _, _, _, _, _, he, ?_⟩
      refine Dr.alloc (h70.quiet hx71) fun k19 w72 h72 => Dr.st10 (x := sup0) (y := last) h72 fun w82 h82 => yes rfl ?_
      refine rd10 h82.under (a := last) (k := k19) (t := 58) (by first | exact List.Mem.head _ | exact List.Mem.tail _ (List.Mem.head _) | exact List.Mem.tail _ (List.Mem.tail _ (List.Mem.head _)) | exact List.Mem.tail _ (List.Mem.tail _ (List.Mem.tail _ (List.Mem.head _))) | exact List.Mem.tail _ (List.Mem.tail _ (List.Mem.tail _ (List.Mem.tail _ (List.Mem.head _)))) | exact List.Mem.tail _ (List.Mem.tail _ (List.Mem.tail _ (List.Mem.tail _ (List.Mem.tail _ (List.Mem.head _))))) | exact List.Mem.tail _ (List.Mem.tail _ (List.Mem.tail _ (List.Mem.tail _ (List.Mem.tail _ (List.Mem.tail _ (List.Mem.head _)))))) | exact List.Mem.tail _ (List.Mem.tail _ (List.Mem.tail _ (List.Mem.tail _ (List.Mem.tail _ (List.Mem.tail _ (List.Mem.tail _ (List.Mem.head _))))))) | exact List.Mem.tail _ (List.Mem.tail _ (List.Mem.tail _ (List.Mem.tail _ (List.Mem.tail _ (List.Mem.tail _ (List.Mem.tail _ (List.Mem.tail _ (List.Mem.head _)))))))) | exact List.Mem.tail _ (List.Mem.tail _ (List.Mem.tail _ (List.Mem.tail _ (List.Mem.tail _ (List.Mem.tail _ (List.Mem.tail _ (List.Mem.tail _ (List.Mem.tail _ (List.Mem.head _))))))))) | exact List.Mem.tail _ (List.Mem.tail _ (List.Mem.tail _ (List.Mem.tail _ (List.Mem.tail _ (List.Mem.tail _ (List.Mem.tail _ (List.Mem.tail _ (List.Mem.tail _ (List.Mem.tail _ (List.Mem.head _)))))))))) | exact List.Mem.tail _ (List.Mem.tail _ (List.Mem.tail _ (List.Mem.tail _ (List.Mem.tail _ (List.Mem.tail _ (List.Mem.tail _ (List.Mem.tail _ (List.Mem.tail _ (List.Mem.tail _ (List.Mem.tail _ (List.Mem.head _)))))))))))) (rd10 h82.under (a := last) (k := k10) (t := 58) (by first | exact List.Mem.head _ | exact List.Mem.tail _ (List.Mem.head _) | exact List.Mem.tail _ (List.Mem.tail _ (List.Mem.head _)) | exact List.Mem.tail _ (List.Mem.tail _ (List.Mem.tail _ (List.Mem.head _))) | exact List.Mem.tail _ (List.Mem.tail _ (List.Mem.tail _ (List.Mem.tail _ (List.Mem.head _)))) | exact List.Mem.tail _ (List.Mem.tail _ (List.Mem.tail _ (List.Mem.tail _ (List.Mem.tail _ (List.Mem.head _))))) | exact List.Mem.tail _ (List.Mem.tail _ (List.Mem.tail _ (List.Mem.tail _ (List.Mem.tail _ (List.Mem.tail _ (List.Mem.head _)))))) | exact List.Mem.tail _ (List.Mem.tail _ (List.Mem.tail _ (List.Mem.tail _ (List.Mem.tail _ (List.Mem.tail _ (List.Mem.tail _ (List.Mem.head _))))))) | exact List.Mem.tail _ (List.Mem.tail _ (List.Mem.tail _ (List.Mem.tail _ (List.Mem.tail _ (List.Mem.tail _ (List.Mem.tail _ (List.Mem.tail _ (List.Mem.head _)))))))) | exact List.Mem.tail _ (List.Mem.tail _ (List.Mem.tail _ (List.Mem.tail _ (List.Mem.tail _ (List.Mem.tail _ (List.Mem.tail _ (List.Mem.tail _ (List.Mem.tail _ (List.Mem.head _))))))))) | exact List.Mem.tail _ (List.Mem.tail _ (List.Mem.tail _ (List.Mem.tail _ (List.Mem.tail _ (List.Mem.tail _ (List.Mem.tail _ (List.Mem.tail _ (List.Mem.tail _ (List.Mem.tail _ (List.Mem.head _)))))))))) | exact List.Mem.tail _ (List.Mem.tail _ (List.Mem.tail _ (List.Mem.tail _ (List.Mem.tail _ (List.Mem.tail _ (List.Mem.tail _ (List.Mem.tail _ (List.Mem.tail _ (List.Mem.tail _ (List.Mem.tail _ (List.Mem.head _)))))))))))) ⟨true, w82, ?_, rfl, h82.ext⟩)
      have := eql_sup last last (.tmp 141) (.tmp 142) w82
      rwa [decide_eq_true rfl] at this
    · refine rd10 h69.under (a := S) (k := k13) (t := 58) (by first | exact List.Mem.head _ | exact List.Mem.tail _ (List.Mem.head _) | exact List.Mem.tail _ (List.Mem.tail _ (List.Mem.head _)) | exact List.Mem.tail _ (List.Mem.tail _ (List.Mem.tail _ (List.Mem.head _))) | exact List.Mem.tail _ (List.Mem.tail _ (List.Mem.tail _ (List.Mem.tail _ (List.Mem.head _)))) | exact List.Mem.tail _ (List.Mem.tail _ (List.Mem.tail _ (List.Mem.tail _ (List.Mem.tail _ (List.Mem.head _))))) | exact List.Mem.tail _ (List.Mem.tail _ (List.Mem.tail _ (List.Mem.tail _ (List.Mem.tail _ (List.Mem.tail _ (List.Mem.head _)))))) | exact List.Mem.tail _ (List.Mem.tail _ (List.Mem.tail _ (List.Mem.tail _ (List.Mem.tail _ (List.Mem.tail _ (List.Mem.tail _ (List.Mem.head _))))))) | exact List.Mem.tail _ (List.Mem.tail _ (List.Mem.tail _ (List.Mem.tail _ (List.Mem.tail _ (List.Mem.tail _ (List.Mem.tail _ (List.Mem.tail _ (List.Mem.head _)))))))) | exact List.Mem.tail _ (List.Mem.tail _ (List.Mem.tail _ (List.Mem.tail _ (List.Mem.tail _ (List.Mem.tail _ (List.Mem.tail _ (List.Mem.tail _ (List.Mem.tail _ (List.Mem.head _))))))))) | exact List.Mem.tail _ (List.Mem.tail _ (List.Mem.tail _ (List.Mem.tail _ (List.Mem.tail _ (List.Mem.tail _ (List.Mem.tail _ (List.Mem.tail _ (List.Mem.tail _ (List.Mem.tail _ (List.Mem.head _)))))))))) | exact List.Mem.tail _ (List.Mem.tail _ (List.Mem.tail _ (List.Mem.tail _ (List.Mem.tail _ (List.Mem.tail _ (List.Mem.tail _ (List.Mem.tail _ (List.Mem.tail _ (List.Mem.tail _ (List.Mem.tail _ (List.Mem.head _)))))))))))) (Dr.st10 (x := last) (y := S) h70 fun w9 h9 => ⟨⟨i + 1, a', f', S, last, decide (0 < i), eqL, by omega, h9.only, hH, sn'⟩, msr⟩)
    · refine rd10 h69.under (a := S) (k := k13) (t := 58) (by first | exact List.Mem.head _ | exact List.Mem.tail _ (List.Mem.head _) | exact List.Mem.tail _ (List.Mem.tail _ (List.Mem.head _)) | exact List.Mem.tail _ (List.Mem.tail _ (List.Mem.tail _ (List.Mem.head _))) | exact List.Mem.tail _ (List.Mem.tail _ (List.Mem.tail _ (List.Mem.tail _ (List.Mem.head _)))) | exact List.Mem.tail _ (List.Mem.tail _ (List.Mem.tail _ (List.Mem.tail _ (List.Mem.tail _ (List.Mem.head _))))) | exact List.Mem.tail _ (List.Mem.tail _ (List.Mem.tail _ (List.Mem.tail _ (List.Mem.tail _ (List.Mem.tail _ (List.Mem.head _)))))) | exact List.Mem.tail _ (List.Mem.tail _ (List.Mem.tail _ (List.Mem.tail _ (List.Mem.tail _ (List.Mem.tail _ (List.Mem.tail _ (List.Mem.head _))))))) | exact List.Mem.tail _ (List.Mem.tail _ (List.Mem.tail _ (List.Mem.tail _ (List.Mem.tail _ (List.Mem.tail _ (List.Mem.tail _ (List.Mem.tail _ (List.Mem.head _)))))))) | exact List.Mem.tail _ (List.Mem.tail _ (List.Mem.tail _ (List.Mem.tail _ (List.Mem.tail _ (List.Mem.tail _ (List.Mem.tail _ (List.Mem.tail _ (List.Mem.tail _ (List.Mem.head _))))))))) | exact List.Mem.tail _ (List.Mem.tail _ (List.Mem.tail _ (List.Mem.tail _ (List.Mem.tail _ (List.Mem.tail _ (List.Mem.tail _ (List.Mem.tail _ (List.Mem.tail _ (List.Mem.tail _ (List.Mem.head _)))))))))) | exact List.Mem.tail _ (List.Mem.tail _ (List.Mem.tail _ (List.Mem.tail _ (List.Mem.tail _ (List.Mem.tail _ (List.Mem.tail _ (List.Mem.tail _ (List.Mem.tail _ (List.Mem.tail _ (List.Mem.tail _ (List.Mem.head _)))))))))))) (Dr.st10 (x := last) (y := S) h70 fun w9 h9 => ⟨⟨i + 1, a', f', S, last, decide (0 < i), eqL, by omega, h9.only, hH, sn'⟩, msr⟩)
    · refine rd10 h69.under (a := S) (k := k13) (t := 58) (by first | exact List.Mem.head _ | exact List.Mem.tail _ (List.Mem.head _) | exact List.Mem.tail _ (List.Mem.tail _ (List.Mem.head _)) | exact List.Mem.tail _ (List.Mem.tail _ (List.Mem.tail _ (List.Mem.head _))) | exact List.Mem.tail _ (List.Mem.tail _ (List.Mem.tail _ (List.Mem.tail _ (List.Mem.head _)))) | exact List.Mem.tail _ (List.Mem.tail _ (List.Mem.tail _ (List.Mem.tail _ (List.Mem.tail _ (List.Mem.head _))))) | exact List.Mem.tail _ (List.Mem.tail _ (List.Mem.tail _ (List.Mem.tail _ (List.Mem.tail _ (List.Mem.tail _ (List.Mem.head _)))))) | exact List.Mem.tail _ (List.Mem.tail _ (List.Mem.tail _ (List.Mem.tail _ (List.Mem.tail _ (List.Mem.tail _ (List.Mem.tail _ (List.Mem.head _))))))) | exact List.Mem.tail _ (List.Mem.tail _ (List.Mem.tail _ (List.Mem.tail _ (List.Mem.tail _ (List.Mem.tail _ (List.Mem.tail _ (List.Mem.tail _ (List.Mem.head _)))))))) | exact List.Mem.tail _ (List.Mem.tail _ (List.Mem.tail _ (List.Mem.tail _ (List.Mem.tail _ (List.Mem.tail _ (List.Mem.tail _ (List.Mem.tail _ (List.Mem.tail _ (List.Mem.head _))))))))) | exact List.Mem.tail _ (List.Mem.tail _ (List.Mem.tail _ (List.Mem.tail _ (List.Mem.tail _ (List.Mem.tail _ (List.Mem.tail _ (List.Mem.tail _ (List.Mem.tail _ (List.Mem.tail _ (List.Mem.head _)))))))))) | exact List.Mem.tail _ (List.Mem.tail _ (List.Mem.tail _ (List.Mem.tail _ (List.Mem.tail _ (List.Mem.tail _ (List.Mem.tail _ (List.Mem.tail _ (List.Mem.tail _ (List.Mem.tail _ (List.Mem.tail _ (List.Mem.head _)))))))))))) (Dr.st10 (x := last) (y := S) h70 fun w9 h9 => ⟨⟨i + 1, a', f', S, last, decide (0 < i), eqL, by omega, h9.only, hH, sn'⟩, msr⟩)
  refine no rfl (rd10 h68.under (a := S) (k := k15) (t := 58) (by first | exact List.Mem.head _ | exact List.Mem.tail _ (List.Mem.head _) | exact List.Mem.tail _ (List.Mem.tail _ (List.Mem.head _)) | exact List.Mem.tail _ (List.Mem.tail _ (List.Mem.tail _ (List.Mem.head _))) | exact List.Mem.tail _ (List.Mem.tail _ (List.Mem.tail _ (List.Mem.tail _ (List.Mem.head _)))) | exact List.Mem.tail _ (List.Mem.tail _ (List.Mem.tail _ (List.Mem.tail _ (List.Mem.tail _ (List.Mem.head _))))) | exact List.Mem.tail _ (List.Mem.tail _ (List.Mem.tail _ (List.Mem.tail _ (List.Mem.tail _ (List.Mem.tail _ (List.Mem.head _)))))) | exact List.Mem.tail _ (List.Mem.tail _ (List.Mem.tail _ (List.Mem.tail _ (List.Mem.tail _ (List.Mem.tail _ (List.Mem.tail _ (List.Mem.head _))))))) | exact List.Mem.tail _ (List.Mem.tail _ (List.Mem.tail _ (List.Mem.tail _ (List.Mem.tail _ (List.Mem.tail _ (List.Mem.tail _ (List.Mem.tail _ (List.Mem.head _)))))))) | exact List.Mem.tail _ (List.Mem.tail _ (List.Mem.tail _ (List.Mem.tail _ (List.Mem.tail _ (List.Mem.tail _ (List.Mem.tail _ (List.Mem.tail _ (List.Mem.tail _ (List.Mem.head _))))))))) | exact List.Mem.tail _ (List.Mem.tail _ (List.Mem.tail _ (List.Mem.tail _ (List.Mem.tail _ (List.Mem.tail _ (List.Mem.tail _ (List.Mem.tail _ (List.Mem.tail _ (List.Mem.tail _ (List.Mem.head _)))))))))) | exact List.Mem.tail _ (List.Mem.tail _ (List.Mem.tail _ (List.Mem.tail _ (List.Mem.tail _ (List.Mem.tail _ (List.Mem.tail _ (List.Mem.tail _ (List.Mem.tail _ (List.Mem.tail _ (List.Mem.tail _ (List.Mem.head _)))))))))))) (rd10 h68.under (a := S) (k := k13) (t := 58) (by first | exact List.Mem.head _ | exact List.Mem.tail _ (List.Mem.head _) | exact List.Mem.tail _ (List.Mem.tail _ (List.Mem.head _)) | exact List.Mem.tail _ (List.Mem.tail _ (List.Mem.tail _ (List.Mem.head _))) | exact List.Mem.tail _ (List.Mem.tail _ (List.Mem.tail _ (List.Mem.tail _ (List.Mem.head _)))) | exact List.Mem.tail _ (List.Mem.tail _ (List.Mem.tail _ (List.Mem.tail _ (List.Mem.tail _ (List.Mem.head _))))) | exact List.Mem.tail _ (List.Mem.tail _ (List.Mem.tail _ (List.Mem.tail _ (List.Mem.tail _ (List.Mem.tail _ (List.Mem.head _)))))) | exact List.Mem.tail _ (List.Mem.tail _ (List.Mem.tail _ (List.Mem.tail _ (List.Mem.tail _ (List.Mem.tail _ (List.Mem.tail _ (List.Mem.head _))))))) | exact List.Mem.tail _ (List.Mem.tail _ (List.Mem.tail _ (List.Mem.tail _ (List.Mem.tail _ (List.Mem.tail _ (List.Mem.tail _ (List.Mem.tail _ (List.Mem.head _)))))))) | exact List.Mem.tail _ (List.Mem.tail _ (List.Mem.tail _ (List.Mem.tail _ (List.Mem.tail _ (List.Mem.tail _ (List.Mem.tail _ (List.Mem.tail _ (List.Mem.tail _ (List.Mem.head _))))))))) | exact List.Mem.tail _ (List.Mem.tail _ (List.Mem.tail _ (List.Mem.tail _ (List.Mem.tail _ (List.Mem.tail _ (List.Mem.tail _ (List.Mem.tail _ (List.Mem.tail _ (List.Mem.tail _ (List.Mem.head _)))))))))) | exact List.Mem.tail _ (List.Mem.tail _ (List.Mem.tail _ (List.Mem.tail _ (List.Mem.tail _ (List.Mem.tail _ (List.Mem.tail _ (List.Mem.tail _ (List.Mem.tail _ (List.Mem.tail _ (List.Mem.tail _ (List.Mem.head _)))))))))))) ⟨false, w68, neqS S _ _ w68, no rfl ⟨dec_t fun hi0 => ?_, dec_f fun _ => main w68 h68⟩⟩))
  have hi0 : 0 < i := by omega
  rw [decide_eq_true hi0] at hpos
  have hd0 : d0 = true := by rcases hpos with ⟨_, _, h, _, h'⟩ | ⟨_, _, h, _, h'⟩ <;> assumption
  have hd1 : d1 = true := by rcases hpos with ⟨_, _, h, _, h'⟩ | ⟨_, _, h, _, h'⟩ <;> assumption
  refine ⟨by omega, by omega, d0, h68.under.ld List.mem_cons_self rfl, no (by rw [hd0]; rfl) ⟨by omega, by omega, d1, h68.under.ld List.mem_cons_self rfl, no (by rw [hd1]; rfl) ⟨by omega, by omega, ?_⟩⟩⟩
  refine rd10L h68.under (a := t0) (b := t1) (k := k17) (t := 67) (by first | exact List.Mem.head _ | exact List.Mem.tail _ (List.Mem.head _) | exact List.Mem.tail _ (List.Mem.tail _ (List.Mem.head _)) | exact List.Mem.tail _ (List.Mem.tail _ (List.Mem.tail _ (List.Mem.head _))) | exact List.Mem.tail _ (List.Mem.tail _ (List.Mem.tail _ (List.Mem.tail _ (List.Mem.head _)))) | exact List.Mem.tail _ (List.Mem.tail _ (List.Mem.tail _ (List.Mem.tail _ (List.Mem.tail _ (List.Mem.head _))))) | exact List.Mem.tail _ (List.Mem.tail _ (List.Mem.tail _ (List.Mem.tail _ (List.Mem.tail _ (List.Mem.tail _ (List.Mem.head _)))))) | exact List.Mem.tail _ (List.Mem.tail _ (List.Mem.tail _ (List.Mem.tail _ (List.Mem.tail _ (List.Mem.tail _ (List.Mem.tail _ (List.Mem.head _))))))) | exact List.Mem.tail _ (List.Mem.tail _ (List.Mem.tail _ (List.Mem.tail _ (List.Mem.tail _ (List.Mem.tail _ (List.Mem.tail _ (List.Mem.tail _ (List.Mem.head _)))))))) | exact List.Mem.tail _ (List.Mem.tail _ (List.Mem.tail _ (List.Mem.tail _ (List.Mem.tail _ (List.Mem.tail _ (List.Mem.tail _ (List.Mem.tail _ (List.Mem.tail _ (List.Mem.head _))))))))) | exact List.Mem.tail _ (List.Mem.tail _ (List.Mem.tail _ (List.Mem.tail _ (List.Mem.tail _ (List.Mem.tail _ (List.Mem.tail _ (List.Mem.tail _ (List.Mem.tail _ (List.Mem.tail _ (List.Mem.head _)))))))))) | exact List.Mem.tail _ (List.Mem.tail _ (List.Mem.tail _ (List.Mem.tail _ (List.Mem.tail _ (List.Mem.tail _ (List.Mem.tail _ (List.Mem.tail _ (List.Mem.tail _ (List.Mem.tail _ (List.Mem.tail _ (List.Mem.head _)))))))))))) (rd10 h68.under (a := last) (k := k10) (t := 58) (by first | exact List.Mem.head _ | exact List.Mem.tail _ (List.Mem.head _) | exact List.Mem.tail _ (List.Mem.tail _ (List.Mem.head _)) | exact List.Mem.tail _ (List.Mem.tail _ (List.Mem.tail _ (List.Mem.head _))) | exact List.Mem.tail _ (List.Mem.tail _ (List.Mem.tail _ (List.Mem.tail _ (List.Mem.head _)))) | exact List.Mem.tail _ (List.Mem.tail _ (List.Mem.tail _ (List.Mem.tail _ (List.Mem.tail _ (List.Mem.head _))))) | exact List.Mem.tail _ (List.Mem.tail _ (List.Mem.tail _ (List.Mem.tail _ (List.Mem.tail _ (List.Mem.tail _ (List.Mem.head _)))))) | exact List.Mem.tail _ (List.Mem.tail _ (List.Mem.tail _ (List.Mem.tail _ (List.Mem.tail _ (List.Mem.tail _ (List.Mem.tail _ (List.Mem.head _))))))) | exact List.Mem.tail _ (List.Mem.tail _ (List.Mem.tail _ (List.Mem.tail _ (List.Mem.tail _ (List.Mem.tail _ (List.Mem.tail _ (List.Mem.tail _ (List.Mem.head _)))))))) | exact List.Mem.tail _ (List.Mem.tail _ (List.Mem.tail _ (List.Mem.tail _ (List.Mem.tail _ (List.Mem.tail _ (List.Mem.tail _ (List.Mem.tail _ (List.Mem.tail _ (List.Mem.head _))))))))) | exact List.Mem.tail _ (List.Mem.tail _ (List.Mem.tail _ (List.Mem.tail _ (List.Mem.tail _ (List.Mem.tail _ (List.Mem.tail _ (List.Mem.tail _ (List.Mem.tail _ (List.Mem.tail _ (List.Mem.head _)))))))))) | exact List.Mem.tail _ (List.Mem.tail _ (List.Mem.tail _ (List.Mem.tail _ (List.Mem.tail _ (List.Mem.tail _ (List.Mem.tail _ (List.Mem.tail _ (List.Mem.tail _ (List.Mem.tail _ (List.Mem.tail _ (List.Mem.head _)))))))))))) ⟨!decide (t0 = last), w68, neq_sup t0 last _ _ w68, fun hb => ?_, fun _ => main w68 h68⟩)
  refine ⟨by omega, by omega, rd10R h68.under (a := t0) (b := t1) (k := k17) (t := 67) (by first | exact List.Mem.head _ | exact List.Mem.tail _ (List.Mem.head _) | exact List.Mem.tail _ (List.Mem.tail _ (List.Mem.head _)) | exact List.Mem.tail _ (List.Mem.tail _ (List.Mem.tail _ (List.Mem.head _))) | exact List.Mem.tail _ (List.Mem.tail _ (List.Mem.tail _ (List.Mem.tail _ (List.Mem.head _)))) | exact List.Mem.tail _ (List.Mem.tail _ (List.Mem.tail _ (List.Mem.tail _ (List.Mem.tail _ (List.Mem.head _))))) | exact List.Mem.tail _ (List.Mem.tail _ (List.Mem.tail _ (List.Mem.tail _ (List.Mem.tail _ (List.Mem.tail _ (List.Mem.head _)))))) | exact List.Mem.tail _ (List.Mem.tail _ (List.Mem.tail _ (List.Mem.tail _ (List.Mem.tail _ (List.Mem.tail _ (List.Mem.tail _ (List.Mem.head _))))))) | exact List.Mem.tail _ (List.Mem.tail _ (List.Mem.tail _ (List.Mem.tail _ (List.Mem.tail _ (List.Mem.tail _ (List.Mem.tail _ (List.Mem.tail _ (List.Mem.head _)))))))) | exact List.Mem.tail _ (List.Mem.tail _ (List.Mem.tail _ (List.Mem.tail _ (List.Mem.tail _ (List.Mem.tail _ (List.Mem.tail _ (List.Mem.tail _ (List.Mem.tail _ (List.Mem.head _))))))))) | exact List.Mem.tail _ (List.Mem.tail _ (List.Mem.tail _ (List.Mem.tail _ (List.Mem.tail _ (List.Mem.tail _ (List.Mem.tail _ (List.Mem.tail _ (List.Mem.tail _ (List.Mem.tail _ (List.Mem.head _)))))))))) | exact List.Mem.tail _ (List.Mem.tail _ (List.Mem.tail _ (List.Mem.tail _ (List.Mem.tail _ (List.Mem.tail _ (List.Mem.tail _ (List.Mem.tail _ (List.Mem.tail _ (List.Mem.tail _ (List.Mem.tail _ (List.Mem.head _)))))))))))) (rd10 h68.under (a := last) (k := k10) (t := 58) (by first | exact List.Mem.head _ | exact List.Mem.tail _ (List.Mem.head _) | exact List.Mem.tail _ (List.Mem.tail _ (List.Mem.head _)) | exact List.Mem.tail _ (List.Mem.tail _ (List.Mem.tail _ (List.Mem.head _))) | exact List.Mem.tail _ (List.Mem.tail _ (List.Mem.tail _ (List.Mem.tail _ (List.Mem.head _)))) | exact List.Mem.tail _ (List.Mem.tail _ (List.Mem.tail _ (List.Mem.tail _ (List.Mem.tail _ (List.Mem.head _))))) | exact List.Mem.tail _ (List.Mem.tail _ (List.Mem.tail _ (List.Mem.tail _ (List.Mem.tail _ (List.Mem.tail _ (List.Mem.head _)))))) | exact List.Mem.tail _ (List.Mem.tail _ (List.Mem.tail _ (List.Mem.tail _ (List.Mem.tail _ (List.Mem.tail _ (List.Mem.tail _ (List.Mem.head _))))))) | exact List.Mem.tail _ (List.Mem.tail _ (List.Mem.tail _ (List.Mem.tail _ (List.Mem.tail _ (List.Mem.tail _ (List.Mem.tail _ (List.Mem.tail _ (List.Mem.head _)))))))) | exact List.Mem.tail _ (List.Mem.tail _ (List.Mem.tail _ (List.Mem.tail _ (List.Mem.tail _ (List.Mem.tail _ (List.Mem.tail _ (List.Mem.tail _ (List.Mem.tail _ (List.Mem.head _))))))))) | exact List.Mem.tail _ (List.Mem.tail _ (List.Mem.tail _ (List.Mem.tail _ (List.Mem.tail _ (List.Mem.tail _ (List.Mem.tail _ (List.Mem.tail _ (List.Mem.tail _ (List.Mem.tail _ (List.Mem.head _)))))))))) | exact List.Mem.tail _ (List.Mem.tail _ (List.Mem.tail _ (List.Mem.tail _ (List.Mem.tail _ (List.Mem.tail _ (List.Mem.tail _ (List.Mem.tail _ (List.Mem.tail _ (List.Mem.tail _ (List.Mem.tail _ (List.Mem.head _)))))))))))) ⟨!decide (t1 = last), w68, neq_sup t1 last _ _ w68, fun hb2 => ?_, fun _ => main w68 h68⟩)⟩
  exfalso
  rcases hpos with ⟨_, _, _, h, _⟩ | ⟨_, _, _, h, _⟩
  · rw [decide_eq_true h] at hb2; cases hb2
  · rw [decide_eq_true h] at hb; cases hb
end Go.Proofs.Ytdppllkjibfjcaa
