import Derived.Test.YtdppllkjibfjcaaSo3
import Derived.Test.YtdppllkjibfjcaaLd2
/-! slots: a drive that holds texts, all of them safe; the law's shown. -/
namespace Go.Proofs.Ytdppllkjibfjcaa
open Go.Sh Go.RowKit
set_option linter.unusedVariables false
set_option linter.unusedSimpArgs false
set_option maxRecDepth 20000
set_option maxHeartbeats 1000000
/-- nothing is pending, nothing is spoilt -/
structure AD.Hold (a : AD) (n : Nat) (f : Nat → ByteArray) : Prop where
  on : a.On n
  pend : ∀ j, a.pend j = []
  sp : ∀ j, a.spoilt j = false
  safe : ∀ j, j < n → a.safe.getD j noB = f j
theorem AD.Hold.few {a : AD} {n : Nat} {f : Nat → ByteArray} (h : a.Hold n f) (N : Nat) : a.Few N := fun j => by rw [h.pend]; exact Nat.zero_le _
theorem AD.Hold.read {a : AD} {n : Nat} {f : Nat → ByteArray} (h : a.Hold n f) {i : Nat} (hi : i < n) : a.read (i : Int) = (f i, 0) := by
  rw [read_on h.on (by omega), Int.toNat_natCast, if_neg (by rw [h.sp]; decide), AD.top_none (h.pend i), h.safe i hi]
theorem hold_new (n : Nat) : (AD.new n).Hold n fun _ => zeroSec := ⟨AD.On.new n, fun _ => rfl, fun _ => rfl, fun j hj => by
  show (List.replicate n zeroSec).getD j noB = zeroSec
  simp [List.getD, hj]⟩
theorem AD.Hold.change {a : AD} {n : Nat} {f : Nat → ByteArray} (h : a.Hold n f) {i : Nat} (hi : i < n) {s : ByteArray} (hs : s.size = 64) : (a.change (i : Int) s).Hold n fun j => if j = i then s else f j := by
  have hp := h.on.put (i := (i : Int)) (by omega) hs
  refine ⟨h.on.change _ _, fun j => ?_, fun j => ?_, fun j hj => ?_⟩ <;> rw [AD.change_of hp]
  · show (if j = (i : Int).toNat then [] else a.pend j) = []
    rw [h.pend]; split <;> rfl
  · exact h.sp j
  · show (a.safe.set (i : Int).toNat s).getD j noB = _
    have hl := h.on.len
    rw [Int.toNat_natCast, List.getD_eq_getElem?_getD, List.getElem?_set]
    by_cases e : i = j
    · subst e; rw [if_pos rfl, if_pos (by omega), if_pos rfl]; rfl
    · rw [if_neg e, if_neg (fun e' => e e'.symm), ← h.safe j hj, List.getD_eq_getElem?_getD]
theorem AD.Hold.few_write {a : AD} {n : Nat} {f : Nat → ByteArray} (h : a.Hold n f) (i : Int) (s : ByteArray) : (a.write i s).Few 1000000 := ((h.few 0).write i s).mono (by decide)
theorem AD.Hold.save {a : AD} {n : Nat} {f : Nat → ByteArray} (h : a.Hold n f) {i : Nat} (hi : i < n) {s : ByteArray} (hs : s.size = 64) : ((a.write (i : Int) s).flush).Hold n fun j => if j = i then s else f j := by
  have hp := h.on.put (i := (i : Int)) (by omega) hs
  have how := h.on.write (i : Int) s
  refine ⟨how.flush, fun j => ?_, fun j => ?_, fun j hj => ?_⟩ <;> rw [AD.flush_of how.flush1]
  · rfl
  · show (a.write (i : Int) s).spoilt j = false
    rw [AD.write_of hp]
    show (if j = (i : Int).toNat then false else a.spoilt j) = false
    rw [h.sp]; split <;> rfl
  · show (keptFrom (fun _ m => m) (a.write (i : Int) s).pend 0 0 (a.write (i : Int) s).safe).getD j noB = _
    obtain ⟨k', hk⟩ := keptFrom_get (fun _ m => m) (a.write (i : Int) s).pend noB (a.write (i : Int) s).safe 0 0 j (by rw [how.len]; exact hj)
    rw [hk, Nat.zero_add, AD.write_of hp]
    simp only [Int.toNat_natCast]
    by_cases e : j = i
    · subst e
      simp [h.pend]
    · rw [if_neg e, if_pos (h.pend j), if_neg e]
      exact h.safe j hj
theorem AD.Hold.crash {a : AD} {n : Nat} {f : Nat → ByteArray} (h : a.Hold n f) {i : Nat} (hi : i < n) {s : ByteArray} (hs : s.size = 64) (keep : List UInt8) : ∃ q : Bool, ((a.write (i : Int) s).crash keep).Hold n fun j => if j = i ∧ q = true then s else f j := by
  have hp := h.on.put (i := (i : Int)) (by omega) hs
  have how := h.on.write (i : Int) s
  have hsafe : (a.write (i : Int) s).safe = a.safe := by rw [AD.write_of hp]
  have hpend : ∀ j, (a.write (i : Int) s).pend j = if j = i then [s] else [] := fun j => by
    rw [AD.write_of hp]
    show (if j = (i : Int).toNat then a.pend j ++ [s] else a.pend j) = _
    rw [h.pend, Int.toNat_natCast]; rfl
  have hsp : ∀ j, (a.write (i : Int) s).spoilt j = false := fun j => by
    rw [AD.write_of hp]
    show (if j = (i : Int).toNat then false else a.spoilt j) = false
    rw [h.sp]; split <;> rfl
  obtain ⟨k0, hk0⟩ := keptFrom_get (keepG keep) (a.write (i : Int) s).pend noB (a.write (i : Int) s).safe 0 0 i (by rw [how.len]; exact hi)
  refine ⟨decide (0 < keepG keep k0 1), ⟨how.dead, rfl, ?_⟩, fun j => rfl, hsp, fun j hj => ?_⟩
  · show (keptFrom (keepG keep) (a.write (i : Int) s).pend 0 0 (a.write (i : Int) s).safe).length = n
    rw [keptFrom_len, how.len]
  · show (keptFrom (keepG keep) (a.write (i : Int) s).pend 0 0 (a.write (i : Int) s).safe).getD j noB = _
    by_cases e : j = i
    · subst e
      rw [hk0, Nat.zero_add, hpend, if_pos rfl, if_neg (by simp)]
      have hle := keepG_le keep k0 1
      by_cases hg : 0 < keepG keep k0 1
      · have h1 : keepG keep k0 1 = 1 := by omega
        simp [h1]
      · simp only [List.length_singleton, if_neg hg]
        rw [if_neg (by simp [hg]), hsafe, h.safe j hj]
    · obtain ⟨k', hk⟩ := keptFrom_get (keepG keep) (a.write (i : Int) s).pend noB (a.write (i : Int) s).safe 0 0 j (by rw [how.len]; exact hj)
      rw [hk, Nat.zero_add, hpend, if_neg e, if_pos rfl, hsafe, h.safe j hj, if_neg (fun h => e h.1)]
/-- what a text is, as a slot -/
inductive Cont (t : ByteArray) : SupV → Bool → Prop
  | bad (hs : t.size = 64) (hb : t.data.toList.getD 0 0 ≠ 82) : Cont t sup0 false
  | good (s : SupV) (h : t = strB (encS s)) (hm : MayS s) : Cont t s true
theorem AD.Hold.slot {a : AD} {n : Nat} {f : Nat → ByteArray} (h : a.Hold n f) {i : Nat} (hi : i < n) {s : SupV} {b : Bool} (hc : Cont (f i) s b) : SlotAt a (i : Int) s b := by
  have hr := h.read hi
  cases hc with
  | bad hs hb => exact .bad _ hr hs hb
  | good s he hm => exact .good s (by rw [hr, he]) hm
theorem cont_zero : Cont zeroSec sup0 false := .bad rfl (by decide)
theorem cont_enc {s : SupV} (h : MayS s) : Cont (strB (encS s)) s true := .good s rfl h
theorem load_u {p : Nat} {a : AD} {F : List Nat} {w0 w : World} {X : List A} {Φ : Ending → World → Prop} (h : Dr p a F w0 w X) {n : Nat} {f : Nat → ByteArray} (hh : a.Hold n f) (hn : 2 ≤ n) {s0 s1 : SupV} {b0 b1 : Bool} (hs0 : Cont (f 0) s0 b0) (hs1 : Cont (f 1) s1 b1) {s : SupV} {e : Int} (hl : loadS s0 b0 s1 b1 = (s, e))
    (hk : ∀ w', Dr p a F w0 w' X → Φ (.returned (.tuple #[.agg (supC s), .int .i64 e])) w') : Calls Try.prog 33 #[.pointer (some ⟨p, 0, none⟩)] w Φ := by
  have := load_spec h (hh.few _) hh.on.dead (hh.slot (i := 0) (by omega) hs0) (hh.slot (i := 1) (by omega) hs1)
  rw [hl] at this
  exact this.mono fun e w' ⟨he, hx⟩ => by rw [he]; exact hk w' (h.quiet hx)
theorem saved_u {p : Nat} {a : AD} {F : List Nat} {w0 w : World} {X : List A} {Φ : Ending → World → Prop} (h : Dr p a F w0 w X) {n : Nat} {f : Nat → ByteArray} (hh : a.Hold n f) (hn : 2 ≤ n) {s : SupV} (hm : MayS s)
    (hk : ∀ a' w', Dr p a' F w0 w' X → (a'.Hold n fun j => if j = (s.events % 2).toNat then strB (encS s) else f j) → Φ (.returned (.int .i64 0)) w') : Calls Try.prog 35 #[.pointer (some ⟨p, 0, none⟩), .agg (supC s)] w Φ := by
  have he : s.events % 2 = (((s.events % 2).toNat : Nat) : Int) := by omega
  refine save_u h (hh.few _) hh.on hn hm (hh.few_write _ _) fun w' hd => hk _ w' hd ?_
  rw [he]
  exact hh.save (by omega) (encS_size s)
theorem Dr.alloc {p : Nat} {a : AD} {F : List Nat} {w0 w : World} {X : List A} (h : Dr p a F w0 w X) {c : Array Value} {t : TypeId} {K : Nat → World → Prop} (hK : ∀ b w', Dr p a F w0 w' (blk b c t :: X) → K b w') : Alloc c t w K := by
  obtain ⟨D, h1, h2, hT⟩ := h
  refine Alloc.t hT fun b w' hT' => hK b w' ⟨D, h1, h2, ?_⟩
  first
    | exact hT'
    | exact hT'.swap List.perm_middle.symm
theorem Dr.st10 {p : Nat} {a : AD} {F : List Nat} {w0 w : World} {X : List A} {k : Nat} {t : TypeId} {x y : SupV} (h : Dr p a F w0 w (blk k (supC x) t :: X)) {K : World → Prop} (hK : ∀ w', Dr p a F w0 w' (blk k (supC y) t :: X) → K w') :
    St ⟨k, 0, none⟩ (.int .u64 y.uuid) w fun w1 => St ⟨k, 1, none⟩ (.int .u64 y.events) w1 fun w2 => St ⟨k, 2, none⟩ (.int .i64 y.role) w2 fun w3 => St ⟨k, 3, none⟩ (.int .i64 y.cols) w3 fun w4 => St ⟨k, 4, none⟩ (.int .i64 y.chunk) w4 fun w5 => St ⟨k, 5, none⟩ (.int .i64 y.rows) w5 fun w6 =>
      St ⟨k, 6, none⟩ (.bool y.clean) w6 fun w7 => St ⟨k, 7, none⟩ (.int .i64 y.built) w7 fun w8 => St ⟨k, 8, none⟩ (.int .i64 y.new) w8 fun w9 => St ⟨k, 9, none⟩ (.int .i64 y.grown) w9 K := by
  obtain ⟨D, h1, h2, hT⟩ := h
  first
    | exact Go.Proofs.Ytdppllkjibfjcaa.st10 (a := x) (b := y) hT fun w' hT' => hK w' ⟨D, h1, h2, hT'⟩
    | exact Go.Proofs.Ytdppllkjibfjcaa.st10 (a := x) (b := y) (hT.swap List.perm_middle) fun w' hT' => hK w' ⟨D, h1, h2, hT'.swap List.perm_middle.symm⟩
theorem drew_dr {p : Nat} {a : AD} {F : List Nat} {w0 w : World} {X : List A} (h : Dr p a F w0 w X) : Dr p a F w0 w.drew X := by
  obtain ⟨D, h1, h2, hT⟩ := h
  exact ⟨D, h1, h2, hT.drew⟩
theorem sshown_spec (w : World) : Ret Try.prog 32 #[] w (.bool true) := by
  refine ret_of (revetmentlaw09_shown_calls ?_)
  unfold revetmentlaw09_shown
  refine new_u (n := 4) (T.nil w) (by omega) fun p w1 h1 => ⟨_, rfl, no rfl ?_⟩
  have hm : MayS (someS 9 3 1) := someS_may (by omega) (by omega)
  refine (some_spec (u := 9) (e := 3) (r := 1) (by omega) w1).mono fun e w2 ⟨he, hx2⟩ => ⟨_, _, _, _, _, _, _, _, _, _, he, ?_⟩
  refine saved_u (s := someS 9 3 1) (h1.quiet hx2) (hold_new 4) (by omega) hm fun a' w3 h3 hh => ⟨_, rfl, no rfl ?_⟩
  refine load_u (s := someS 9 3 1) (e := 0) h3 hh (by omega) (s0 := sup0) (b0 := false) (s1 := someS 9 3 1) (b1 := true) cont_zero (cont_enc hm) rfl fun w4 h4 => ⟨_, _, _, _, _, _, _, _, _, _, _, rfl, ?_⟩
  refine Alloc.t h4.under fun k2 w5 h5 => Go.Proofs.Ytdppllkjibfjcaa.st10 (a := sup0) (b := someS 9 3 1) h5 fun w6 h6 => ?_
  refine ⟨fun w' => T [] w w' [blk k2 (supC (someS 9 3 1)) 58], h6.drew, rd10D (a := someS 9 3 1) (t := 58) (fun w' hd => ⟨_, _, _, hd, (by first | exact List.Mem.head _ | exact List.Mem.tail _ (List.Mem.head _) | exact List.Mem.tail _ (List.Mem.tail _ (List.Mem.head _)) | exact List.Mem.tail _ (List.Mem.tail _ (List.Mem.tail _ (List.Mem.head _))) | exact List.Mem.tail _ (List.Mem.tail _ (List.Mem.tail _ (List.Mem.tail _ (List.Mem.head _)))) | exact List.Mem.tail _ (List.Mem.tail _ (List.Mem.tail _ (List.Mem.tail _ (List.Mem.tail _ (List.Mem.head _))))) | exact List.Mem.tail _ (List.Mem.tail _ (List.Mem.tail _ (List.Mem.tail _ (List.Mem.tail _ (List.Mem.tail _ (List.Mem.head _)))))) | exact List.Mem.tail _ (List.Mem.tail _ (List.Mem.tail _ (List.Mem.tail _ (List.Mem.tail _ (List.Mem.tail _ (List.Mem.tail _ (List.Mem.head _))))))) | exact List.Mem.tail _ (List.Mem.tail _ (List.Mem.tail _ (List.Mem.tail _ (List.Mem.tail _ (List.Mem.tail _ (List.Mem.tail _ (List.Mem.tail _ (List.Mem.head _)))))))) | exact List.Mem.tail _ (List.Mem.tail _ (List.Mem.tail _ (List.Mem.tail _ (List.Mem.tail _ (List.Mem.tail _ (List.Mem.tail _ (List.Mem.tail _ (List.Mem.tail _ (List.Mem.head _))))))))) | exact List.Mem.tail _ (List.Mem.tail _ (List.Mem.tail _ (List.Mem.tail _ (List.Mem.tail _ (List.Mem.tail _ (List.Mem.tail _ (List.Mem.tail _ (List.Mem.tail _ (List.Mem.tail _ (List.Mem.head _)))))))))) | exact List.Mem.tail _ (List.Mem.tail _ (List.Mem.tail _ (List.Mem.tail _ (List.Mem.tail _ (List.Mem.tail _ (List.Mem.tail _ (List.Mem.tail _ (List.Mem.tail _ (List.Mem.tail _ (List.Mem.tail _ (List.Mem.head _))))))))))))⟩) ?_⟩
  refine (some_spec (u := 9) (e := 3) (r := 1) (by omega) _).mono fun e w7 ⟨he, hx7⟩ => ⟨_, _, _, _, _, _, _, _, _, _, he, h6.drew.quiet hx7, true, fun x0 _ => ?_, yes rfl ⟨rfl, (h6.drew.quiet hx7).chg.ext⟩⟩
  have := eql_sup (someS 9 3 1) (someS 9 3 1) (.tmp 18) (.tmp 19) x0
  rw [decide_eq_true rfl] at this
  exact this
end Go.Proofs.Ytdppllkjibfjcaa
