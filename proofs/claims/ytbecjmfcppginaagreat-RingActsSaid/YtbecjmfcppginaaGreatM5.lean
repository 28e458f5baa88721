import Derived.Lib.AppendStr
import Derived.Lib.Builder
import Derived.Tactics
import Derived.Tactics2
import Derived.Laws.Pointers
import Derived.RegionTactic
import Derived.RegionCalls
import Derived.ChangeAlike
import Derived.Laws.StructEq
import Derived.ChangeKeysEq
import Derived.ChangeSame
import Derived.Test.YtbecjmfcppginaaGreatProg
import Derived.ReadAgain
import Derived.ChangeMaps5
import Derived.SliceStrings
import Derived.ChangeSlices
import Derived.WalkKit
import Derived.ProofKit
import Derived.OpenShut
import Derived.Lib.SmallJoins
import Derived.Test.YtbecjmfcppginaaGreatM2
import Derived.Test.YtbecjmfcppginaaGreatM3
import Derived.Test.YtbecjmfcppginaaGreatM4
section
/-! strings.Builder: a text is put together; strings.Repeat, strings.Join. -/
namespace Go.Sh
open Go.RowKit Go.Lib
/-- a text is put behind a row of bytes -/
theorem append_s {P : Program} {F : List Nat} {w0 w : World} {Γ Δ : List A} {t u ty e : TypeId} {i : TypeInfo} {z : Value} (cs : Array Bool) (ht : P.underlying t = some (.slice e)) (hu : P.underlying u = some .string) (hi : P.info? e = some i) (hz : i.zero = some z) (hsize : i.size = 1) (hzs : z.cells.size = 1) (hby : i.bytes = 1)
    {g : Option Nat} {n cap : Nat} {xs : List Value} (hT : T F w0 w Γ) (hk : Pick (rowP e 1 g n cap xs) Γ Δ) (s : ByteArray) (hle : n + s.size ≤ 1000000000) :
    ∃ g' cap' w', (builtin .append #[t, u] ty cs #[.slice (ptr g) n cap, .string s]).run P w = .ok (.value (.slice (ptr g') (n + s.size) cap')) w' ∧ T F w0 w' (rowP e 1 g' (n + s.size) cap' (xs ++ strCells s) :: Δ) := by
  have hT1 := hT.pick hk
  obtain ⟨k1, k2, k3, k4⟩ := hT1.says List.mem_cons_self
  have hm : n + s.size ≤ maxLen := by simp only [maxLen]; omega
  have hlen : (xs ++ strCells s).length = (n + s.size) * 1 := by rw [List.length_append, k1, strCells_length, Nat.mul_one, Nat.mul_one]
  have toB : ∀ {v : Value} {w' : World}, (Builtin.append_ #[t, u] ty #[.slice (ptr g) n cap, .string s]).run P w = .ok v w' → (builtin .append #[t, u] ty cs #[.slice (ptr g) n cap, .string s]).run P w = .ok (.value v) w' := by
    intro v w' h
    simp [builtin, h, Result.andThen]
  have grown : ∀ (old : Nat), old < n + s.size →
      T F w0 (w.drew.alloc (.cells (xs.toArray ++ (strCells s).toArray ++ Builtin.zeroCells z.cells (grownCap w (n + s.size) old e - (n + s.size))) e)) (rowP e 1 (some w.heap.size) (n + s.size) (grownCap w (n + s.size) old e) (xs ++ strCells s) :: Δ) := by
    intro old ho
    have hge := grownCap_ge w (n + s.size) old e
    have hcm : grownCap w (n + s.size) old e ≤ maxLen := grownCap_le_maxLen w (n + s.size) old e hm
    have h2 : T F w0 w Δ := hT1.drop
    have h3 := h2.drew.alloc (.cells (xs.toArray ++ (strCells s).toArray ++ Builtin.zeroCells z.cells (grownCap w (n + s.size) old e - (n + s.size))) e)
    refine h3.weak rfl fun q hq => ⟨hlen, hge, hcm, _, hq, ?_, ?_⟩
    · simp only [Array.size_append, List.size_toArray, size_zeroCells, hzs, k1, strCells_length]
      omega
    · simp only [Array.toList_append, List.append_assoc]
      rw [← List.append_assoc, ← hlen]
      exact List.take_left
  cases g with
  | none =>
    obtain rfl : cap = 0 := k4
    obtain rfl : n = 0 := by omega
    have hx : xs = [] := List.eq_nil_of_length_eq_zero (by simpa using k1)
    subst hx
    by_cases h0 : s.size = 0
    · refine ⟨none, 0, w, toB ?_, ?_⟩
      · simp [Builtin.append_, run_underlying ht, run_underlying hu, sizeOf, typeInfo, hi, Builtin.lenOf, h0, Builtin.firstCells]
      · rw [h0]
        have : strCells s = [] := List.eq_nil_of_length_eq_zero (by rw [strCells_length, h0])
        rw [this]; exact hT1
    · have hr := run_append_nil_string (P := P) w t u ty e i z ht hu hi hz s (by omega) (by omega) (by rw [hby]; omega)
      have hgr := grown 0 (by omega)
      simp only [Nat.zero_add, List.nil_append, Array.empty_append] at hgr ⊢
      have e1 : (strCells s).toArray = s.data.map (fun b => Value.int .u8 b.toNat) := by
        apply Array.ext'
        simp [strCells]
      rw [e1] at hgr
      exact ⟨some w.heap.size, _, _, toB hr, hgr⟩
  | some g =>
    obtain ⟨cur, hg, hcs, htake⟩ := k4
    by_cases hroom : n + s.size ≤ cap
    · have hr := run_append_room_string (P := P) w t u ty e i ht hu hi hsize g n cap cur hg s hroom (by omega)
      have hgl : g < w.heap.size := lt_of_heap hg
      refine ⟨some g, cap, _, toB hr, hT1.turn rfl rfl (by simp) (fun q hq hne => setRow_other w g q _ fun e => hne (by simp [rowP, e])) (by simp [rowP]) (fun q hq => ?_) ⟨hlen, hroom, k3, _, setRow_heap w g cur _ e _ hg, ?_, ?_⟩⟩
      · obtain rfl : q = g := by simpa [rowP] using hq
        exact ⟨by simpa using hgl, .inl (by simp [rowP])⟩
      · simp only [List.size_toArray, List.length_append, List.length_take, List.length_drop, Array.length_toList, strCells_length]
        omega
      · rw [Nat.mul_one] at htake
        rw [htake, ← hlen]
        exact List.take_left
    · have holds : ∀ j v, xs[j]? = some v → w.cell? ((⟨g, 0, none⟩ : Addr).add j) = some v := fun j v hv => by
        rw [addr_add, Nat.zero_add]
        exact rowP.cell (hT1.says List.mem_cons_self) hv
      have hr := run_append_grow_string (P := P) w t u ty e i z ht hu hi hz ⟨g, 0, none⟩ n cap xs (by rw [hsize]; exact k1) holds s (by omega) (by omega) (growslice_fits (by omega) (by rw [hby]; omega))
      exact ⟨some w.heap.size, _, _, toB hr, grown cap (by omega)⟩
end Go.Sh
namespace Go.Proofs.YtbecjmfcppginaaGreat
open Go.Sh Go.RowKit
set_option linter.unusedVariables false
set_option linter.unusedSimpArgs false
set_option maxRecDepth 20000
set_option maxHeartbeats 1000000
/-- a builder of its own that holds some bytes: its block, and its row -/
def bldL (b : Nat) (used : Bool) (g : Option Nat) (cap : Nat) (l : List UInt8) : List A := [blk b #[.pointer (if used then some ⟨b, 0, none⟩ else none), .slice (ptr g) l.length cap] 122, rowP 5 1 g l.length cap (bvals l)]
theorem bld_info : ∃ j, Tryz.prog.info? 122 = some j ∧ j.size ≠ 0 := by
  have h : (Tryz.prog.info? 122).map (·.size) = some 2 := by kernel_rfl
  obtain ⟨j, h1, h2⟩ := Option.map_eq_some_iff.1 h
  exact ⟨j, h1, by rw [h2]; decide⟩
theorem copy_used (b : Nat) (w : World) (h0 : w.cell? ⟨b, 0, none⟩ = some (.pointer (some ⟨b, 0, none⟩))) :
    Calls Tryz.prog 98 #[.pointer (some ⟨b, 0, none⟩)] w fun e w' => e = .returned (.tuple #[]) ∧ w' = w := by
  obtain ⟨j, hj, _⟩ := bld_info
  go_enter Tryz.func98, Tryz.ntmps98
  go_wp2
  rw [Go.Lib.run_neq_ptr_same w _ Tryz.underlying120 hj]
  go_wp2
  go_end0
  exact ⟨rfl, rfl⟩
theorem copy_fresh (b : Nat) (w : World) (h0 : w.cell? ⟨b, 0, none⟩ = some (.pointer none)) (hsh : w.shape? b = some (122, 2)) (hfz : w.frozen? ⟨b, 0, none⟩ = false) :
    Calls Tryz.prog 98 #[.pointer (some ⟨b, 0, none⟩)] w fun e w' => e = .returned (.tuple #[]) ∧ w' = w.setCell ⟨b, 0, none⟩ (.pointer (some ⟨b, 0, none⟩)) := by
  obtain ⟨j, hj, hjs⟩ := bld_info
  go_enter Tryz.func98, Tryz.ntmps98
  go_wp2
  rw [Go.Lib.run_to_unsafe w ⟨b, 0, none⟩ Tryz.underlying120 Tryz.underlying167 hj hjs hsh (Nat.zero_lt_succ 1)]
  simp only [Result.andThen]
  rw [Oper.upon_value]
  go_wp2
  rw [run_callFunc_extern Tryz.func113 (by kernel_rfl) (by kernel_rfl) (by kernel_rfl) (e := Extern.AbiNoEscape.same) (by kernel_rfl)]
  rw [Go.Lib.run_noEscape]
  simp only [Result.andThen]
  rw [Oper.upon_value]
  go_wp2
  rw [Go.Lib.run_from_unsafe w ⟨b, 0, none⟩ Tryz.underlying167 Tryz.underlying120 hj hsh (by kernel_rfl)]
  simp only [Result.andThen]
  rw [Oper.upon_value]
  go_wp2
  go_end0
  exact ⟨rfl, rfl⟩
section
variable {F : List Nat} {w0 w : World} {Γ : List A} {b : Nat} {used : Bool} {g : Option Nat} {cap : Nat} {l : List UInt8}
theorem copyCheck_spec (hT : T F w0 w (bldL b used g cap l ++ Γ)) : Calls Tryz.prog 98 #[.pointer (some ⟨b, 0, none⟩)] w fun e w' => e = .returned (.tuple #[]) ∧ T F w0 w' (bldL b true g cap l ++ Γ) := by
  have hT : T F w0 w (blk b #[.pointer (if used then some ⟨b, 0, none⟩ else none), .slice (ptr g) l.length cap] 122 :: rowP 5 1 g l.length cap (bvals l) :: Γ) := hT
  have h0 := hT.ld (b := b) (i := 0) (by repeat (first | exact List.Mem.head _ | refine List.Mem.tail _ ?_)) rfl
  have hb := hT.got (b := b) List.mem_cons_self
  cases used with
  | true =>
    exact (copy_used b w h0).mono fun e w' ⟨he, hw⟩ => ⟨he, by rw [hw]; exact hT⟩
  | false =>
    refine (copy_fresh b w h0 (by simp [World.shape?, hb]) (by simp [World.frozen?, hb])).mono fun e w' ⟨he, hw⟩ => ⟨he, ?_⟩
    rw [hw]
    refine hT.change .head rfl rfl ?_ (setBlock_same hb) fun d hd => setBlock_other hd
    show (w.heap.modify b _).size = _
    rw [Array.size_modify]
theorem writeString_spec (hT : T F w0 w (bldL b used g cap l ++ Γ)) (s : List UInt8) (hl : l.length + s.length ≤ 1000000) : Calls Tryz.prog 67 #[.pointer (some ⟨b, 0, none⟩), .string (strB s)] w fun e w' => e = .returned (.tuple #[.int .i64 (s.length : Int), .nilIface]) ∧ ∃ g' cap', T F w0 w' (bldL b true g' cap' (l ++ s) ++ Γ) := by
  refine (strings_Builder_WriteString_calls (R := fun v w' => v = .tuple #[.int .i64 (s.length : Int), .nilIface] ∧ ∃ g' cap', T F w0 w' (bldL b true g' cap' (l ++ s) ++ Γ)) ?_).mono fun e w' ⟨v, he, hv, h⟩ => ⟨by rw [he, hv], h⟩
  unfold strings_Builder_WriteString
  refine (copyCheck_spec hT).mono fun e w1 ⟨he, h1⟩ => ⟨he, ⟨b, 0, none⟩, rfl, ?_⟩
  have h1 : T F w0 w1 (blk b #[.pointer (some ⟨b, 0, none⟩), .slice (ptr g) l.length cap] 122 :: rowP 5 1 g l.length cap (bvals l) :: Γ) := h1
  rw [addr_add]
  refine ⟨_, _, _, h1.ld (b := b) (i := 0 + 1) (by repeat (first | exact List.Mem.head _ | refine List.Mem.tail _ ?_)) rfl, ?_⟩
  obtain ⟨g', cap', w2, hr, h2⟩ := append_s (P := Tryz.prog) (t := 44) (u := 9) (ty := 44) (e := 5) (i := Tryz.t5) (z := .int .u8 0) #[false, false] (by kernel_rfl) (by kernel_rfl) (by kernel_rfl) (by kernel_rfl) (by kernel_rfl) (by rfl) (by kernel_rfl) h1 (.tail .head) (strB s) (by rw [strB_size]; omega)
  rw [strB_size] at hr h2
  have e2 : bvals l ++ Go.Lib.strCells (strB s) = bvals (l ++ s) := by simp [bvals, Go.Lib.strCells, strB]
  rw [e2] at h2
  refine ⟨_, _, _, w2, hr, ⟨b, 0, none⟩, rfl, ?_⟩
  rw [addr_add]
  refine St.t (c := #[.pointer (some ⟨b, 0, none⟩), .slice (ptr g) l.length cap]) (c' := #[.pointer (some ⟨b, 0, none⟩), .slice (ptr g') (l.length + s.length) cap']) h2 (.tail .head) (show 0 + 1 < 2 by decide) rfl rfl fun w3 h3 => ⟨by rw [strB_size], g', cap', ?_⟩
  unfold bldL
  rw [List.length_append]
  exact h3.swap (.swap _ _ _)
theorem writeByte_spec (hT : T F w0 w (bldL b used g cap l ++ Γ)) (x : UInt8) (hl : l.length ≤ 1000000) : Calls Tryz.prog 112 #[.pointer (some ⟨b, 0, none⟩), .int .u8 (x.toNat : Int)] w fun e w' => e = .returned .nilIface ∧ ∃ g' cap', T F w0 w' (bldL b true g' cap' (l ++ [x]) ++ Γ) := by
  refine (strings_Builder_WriteByte_calls (R := fun v w' => v = .nilIface ∧ ∃ g' cap', T F w0 w' (bldL b true g' cap' (l ++ [x]) ++ Γ)) ?_).mono fun e w' ⟨v, he, hv, h⟩ => ⟨by rw [he, hv], h⟩
  unfold strings_Builder_WriteByte
  refine (copyCheck_spec hT).mono fun e w1 ⟨he, h1⟩ => ⟨he, ⟨b, 0, none⟩, rfl, ?_⟩
  have h1 : T F w0 w1 (blk b #[.pointer (some ⟨b, 0, none⟩), .slice (ptr g) l.length cap] 122 :: rowP 5 1 g l.length cap (bvals l) :: Γ) := h1
  rw [addr_add]
  refine ⟨_, _, _, h1.ld (b := b) (i := 0 + 1) (by repeat (first | exact List.Mem.head _ | refine List.Mem.tail _ ?_)) rfl, ?_⟩
  refine push1_t (i := Tryz.t5) (z := .int .u8 0) (v := .int .u8 (x.toNat : Int)) (by kernel_rfl) (by kernel_rfl) (by kernel_rfl) (by kernel_rfl) (by kernel_rfl) (by kernel_rfl) h1 (.tail .head) rfl hl fun g' cap' w2 h2 => ⟨⟨b, 0, none⟩, rfl, ?_⟩
  have e2 : bvals l ++ [.int .u8 (x.toNat : Int)] = bvals (l ++ [x]) := by simp [bvals]
  rw [e2] at h2
  rw [addr_add]
  refine St.t (c := #[.pointer (some ⟨b, 0, none⟩), .slice (ptr g) l.length cap]) (c' := #[.pointer (some ⟨b, 0, none⟩), .slice (ptr g') (l.length + 1) cap']) h2 (.tail .head) (show 0 + 1 < 2 by decide) rfl rfl fun w3 h3 => ⟨rfl, g', cap', ?_⟩
  unfold bldL
  rw [List.length_append]
  exact h3.swap (.swap _ _ _)
/-- the text, at the end: a call that owns the builder alone -/
theorem bstring_spec {w0 w : World} (hT : T [] w0 w (bldL b used g cap l ++ Γ)) : Calls Tryz.prog 69 #[.pointer (some ⟨b, 0, none⟩)] w fun e w' => e = .returned (.string (strB l)) ∧ Ext w0 w' := by
  have hT : T [] w0 w (blk b #[.pointer (if used then some ⟨b, 0, none⟩ else none), .slice (ptr g) l.length cap] 122 :: rowP 5 1 g l.length cap (bvals l) :: Γ) := hT
  have hb := hT.got (b := b) List.mem_cons_self
  have hob := (hT.own b (by simp [feet, ob])).2
  obtain ⟨k1, k2, k3, k4⟩ := hT.says (x := rowP 5 1 g l.length cap (bvals l)) (by repeat (first | exact List.Mem.head _ | refine List.Mem.tail _ ?_))
  have hB : w0.heap.size ≤ b := by rcases hob with h | h; · cases h
                                   · exact h
  have own : w.ownsRow w0.heap.size 5 1 (.slice (ptr g) l.length cap) (bvals l).length (bvals l) := by
    rw [bvals_len]
    refine ⟨by rw [bvals_len, Nat.mul_one], ?_⟩
    cases g with
    | none =>
      have h1 : cap = 0 := k4
      left
      have h2 : l.length = 0 := by omega
      rw [h1, h2]; exact ⟨rfl, rfl⟩
    | some g =>
      obtain ⟨cur, h1, h2, h3⟩ := k4
      have hog := (hT.own g (by simp [feet, ob, rowP])).2
      refine .inr ⟨g, cap, cur, rfl, ?_, h1, k2, k3, h2, h3⟩
      rcases hog with h | h
      · cases h
      · exact h
  have hne : (Value.slice (ptr g) l.length cap).ownBlock ≠ some b := by
    cases g with
    | none => intro h; cases h
    | some g =>
      intro h
      have hgb : g = b := by simpa [Value.ownBlock] using h
      have hn := hT.nodup
      rw [hgb] at hn
      simp [feet, ob, rowP] at hn
  have at_ : Go.Lib.IsBuilder 122 5 w0.heap.size b (Go.Lib.byteCells l) w := by
    cases used with
    | true => exact .inr ⟨hB, _, hb, own, hne⟩
    | false => exact .inl ⟨hB, _, hb, own, hne⟩
  exact (Tryz.Builder_String_any w0.heap.size b l w at_ hT.chg.size).mono fun e w' ⟨he, hx⟩ => ⟨he, ⟨hx.os.trans hT.chg.os, hx.output.trans hT.chg.output, Nat.le_trans hT.chg.size hx.size, fun k hk => (hx.block k hk).trans (hT.chg.heap k hk (by simp))⟩⟩
end
theorem below_e {w w' : World} (h : Below w.heap.size w w') : Ext w w' := ⟨h.os, h.output, h.size, h.block⟩
theorem repeat0_spec (n : Nat) (hn : n ≤ 1000000) (w : World) : Ret Tryz.prog 36 #[.string (ByteArray.mk #[0]), .int .i64 (n : Int)] w (.string (strB (List.replicate n 0))) := by
  have h1 : (ByteArray.mk #[0]).size = 1 := rfl
  refine (Tryz.strings_Repeat (ByteArray.mk #[0]) n w (by omega) (by rw [h1]; omega)).mono fun e w' ⟨he, hx⟩ => ⟨?_, below_e hx⟩
  rw [he]
  have key : ∀ n, Go.Lib.repeatL [0] n = List.replicate n (0 : UInt8) := by
    intro n
    induction n with
    | zero => rfl
    | succ n ih => rw [List.replicate_succ, ← ih]; rfl
  show Ending.returned (.string ⟨(Go.Lib.repeatL [0] n).toArray⟩) = _
  rw [key]
/-- texts, one behind the other -/
theorem join_nil : ∀ (L : List (List UInt8)), Go.Lib.join L [] = L.flatten := fun L => by
  unfold Go.Lib.join
  have key : ∀ L : List (List UInt8), (List.intersperse [] L).flatten = L.flatten := by
    intro L
    induction L with
    | nil => rfl
    | cons x L ih =>
      cases L with
      | nil => rfl
      | cons y L =>
        show x ++ ([] ++ (List.intersperse [] (y :: L)).flatten) = x ++ (y :: L).flatten
        rw [ih]; rfl
  exact key L
theorem join_spec {F : List Nat} {w0 w : World} {Γ : List A} {g : Option Nat} {n cap : Nat} {L : List (List UInt8)} (hT : T F w0 w Γ) (hm : rowP 9 1 g n cap (L.map fun x => .string (strB x)) ∈ Γ) (hl : L.length ≤ 1000000) (hs : L.flatten.length ≤ 1000000) :
    Ret Tryz.prog 92 #[.slice (ptr g) n cap, .string (ByteArray.mk #[])] w (.string (strB L.flatten)) := by
  have hh := hT.says hm
  have hn : L.length = n := by have := rowP.len hh; rw [List.length_map] at this; omega
  subst hn
  cases g with
  | none =>
    have h1 : cap = 0 := hh.2.2.2
    have h2 : L.length ≤ cap := hh.2.1
    have h3 : L = [] := List.eq_nil_of_length_eq_zero (by omega)
    subst h3
    exact (Tryz.strings_Join_none none cap (ByteArray.mk #[]) w).mono fun e w' ⟨he, hw⟩ => ⟨he, by rw [hw]; exact Ext.refl w⟩
  | some b =>
    obtain ⟨_, hc, _, cur, hg, hcs, htk⟩ := id hh
    have ex : (L.map strB).map (fun x => x.data.toList) = L := by
      rw [List.map_map]
      have : ((fun x : ByteArray => x.data.toList) ∘ strB) = id := by funext s; rfl
      rw [this, List.map_id]
    have e0 : (ByteArray.mk #[]).data.toList = [] := rfl
    have := Tryz.strings_Join b 0 cap (L.map strB) (ByteArray.mk #[]) w (fun j x hj => by
      rw [Nat.zero_add]
      refine rowP.cell hh ?_
      rw [List.getElem?_map] at hj ⊢
      cases hx : L[j]? with
      | none => rw [hx] at hj; cases hj
      | some y => rw [hx] at hj; cases hj; rfl) (lt_of_heap hg) (by rw [List.length_map]; omega) (by rw [List.length_map]; exact hc) (by rw [ex, e0, join_nil]; omega)
    rw [List.length_map, ex, e0, join_nil] at this
    exact this.mono fun e w' ⟨he, hx⟩ => ⟨he, below_e hx⟩
end Go.Proofs.YtbecjmfcppginaaGreat
end
section
/-! A map by pairs of numbers, each put in once. -/
namespace Go.Proofs.YtbecjmfcppginaaGreat
open Go.Sh Go.RowKit
set_option linter.unusedVariables false
set_option linter.unusedSimpArgs false
set_option maxRecDepth 20000
set_option maxHeartbeats 1000000
abbrev Pr2 := Int × Int
def prV (x : Pr2) : Value := .agg #[.int .i64 x.1, .int .i64 x.2]
def prE (ks : List Pr2) : List MapEntry := ks.zipIdx.map fun x => ⟨prV x.1, .bool true, x.2⟩
abbrev mapPr (b : Nat) (ks : List Pr2) : A := ob b (.map (prE ks).toArray ks.length)
theorem prE_snoc (ks : List Pr2) (x : Pr2) : prE (ks ++ [x]) = prE ks ++ [⟨prV x, .bool true, ks.length⟩] := by
  simp [prE, List.zipIdx_append]
theorem pr_part0 (x : Pr2) (w : World) : (part 3 #[.int .i64 x.1, .int .i64 x.2] 0).run Tryz.prog w = .ok (.int .i64 x.1) w := by kernel_rfl
theorem pr_part1 (x : Pr2) (w : World) : (part 3 #[.int .i64 x.1, .int .i64 x.2] 1).run Tryz.prog w = .ok (.int .i64 x.2) w := by kernel_rfl
theorem pr_eq (d : Nat) (x y : Pr2) (w : World) : (Op.equalIn (d + 2) 173 (prV x) (prV y)).run Tryz.prog w = .ok (decide (x = y)) w := by
  have hc : Tryz.prog.cellsOf 3 = 1 := by kernel_rfl
  have ei : ∀ a b : Int, (Op.equalIn (d + 1) 3 (.int .i64 a) (.int .i64 b)).run Tryz.prog w = .ok (a == b) w := fun a b => run_equalIn_int w d 3 .i64 .i64 a b (by kernel_rfl)
  unfold prV
  rw [run_equalIn_array (P := Tryz.prog) (w := w) (d + 1) (t := 173) (e := 3) (n := 2) (i := Tryz.t3) _ _ (by kernel_rfl) (by kernel_rfl), hc, show List.range 2 = [0, 1] from rfl]
  simp only [Op.eqItems, Nat.zero_mul, Nat.one_mul, Sem.run_bind, pr_part0, pr_part1, Result.andThen_ok, ei]
  by_cases h1 : x.1 = y.1
  · have b1 : (x.1 == y.1) = true := by simpa using h1
    simp only [b1, Bool.not_true, Bool.false_eq_true, if_false, Sem.run_bind, pr_part1, Result.andThen_ok, ei]
    by_cases h2 : x.2 = y.2
    · have b2 : (x.2 == y.2) = true := by simpa using h2
      rw [decide_eq_true (Prod.ext h1 h2)]
      simp [b2]
    · have b2 : (x.2 == y.2) = false := by simpa using h2
      rw [decide_eq_false fun e => h2 (by rw [e])]
      simp [b2]
  · have b1 : (x.1 == y.1) = false := by simpa using h1
    rw [decide_eq_false fun e => h1 (by rw [e])]
    simp [b1]
theorem pr_check (d : Nat) (b : Bool) (x : Pr2) (w : World) : (Instr.checkKey b (d + 2) 173 (prV x)).run Tryz.prog w = .ok () w := by kernel_rfl
/-- where a pair stands -/
def findPr (k : Pr2) : List Pr2 → Nat → Option (Nat × Value)
  | [], _ => none
  | x :: l, i => if k = x then some (i, .bool true) else findPr k l (i + 1)
theorem findPr_mem (k : Pr2) : ∀ (l : List Pr2) (i : Nat), (k ∈ l → ∃ j, findPr k l i = some (j, .bool true)) ∧ (k ∉ l → findPr k l i = none)
  | [], i => ⟨fun h => (by cases h), fun _ => rfl⟩
  | x :: l, i => by
    obtain ⟨h1, h2⟩ := findPr_mem k l (i + 1)
    unfold findPr
    by_cases e : k = x
    · rw [if_pos e]
      exact ⟨fun _ => ⟨i, rfl⟩, fun h => absurd (by rw [e]; exact List.mem_cons_self) h⟩
    · rw [if_neg e]
      exact ⟨fun h => h1 ((List.mem_cons.1 h).resolve_left e), fun h => h2 fun h' => h (List.mem_cons_of_mem _ h')⟩
theorem asking (d : Nat) (k : Pr2) (w : World) : ∀ (l : List Pr2) (n i : Nat), (Instr.findAsking 173 (prV k) ((l.zipIdx n).map fun x => (⟨prV x.1, .bool true, x.2⟩ : MapEntry)) i).run Tryz.prog w = .ok (findPr k l i) w
  | [], n, i => by simp [Instr.findAsking, findPr]
  | x :: l, n, i => by
    have he : (Op.equal 173 (prV k) (prV x)).run Tryz.prog w = .ok (decide (k = x)) w := pr_eq 9998 k x w
    have ih := asking d k w l (n + 1) (i + 1)
    simp only [List.zipIdx_cons, List.map_cons, Instr.findAsking, Sem.run_bind, he, Result.andThen_ok]
    by_cases h : k = x
    · simp [h, findPr]
    · simp only [decide_eq_false h, Bool.false_eq_true, if_false, ih, findPr, if_neg h]
theorem findKey_pr (k : Pr2) (l : List Pr2) (w : World) : (Instr.findKey 173 (prV k) (prE l)).run Tryz.prog w = .ok (findPr k l 0) w := by
  have hu : Tryz.prog.underlying 173 = some (.array 2 3) := by kernel_rfl
  unfold Instr.findKey
  simp only [Sem.run_bind, run_underlying hu, Result.andThen_ok]
  cases l with
  | nil => rfl
  | cons x l =>
    have hn : Instr.findNow (.array 2 3) (prV k) (prE (x :: l)) 0 = none := rfl
    rw [hn]
    exact asking 0 k w (x :: l) 0 0
theorem lookup_pr {F : List Nat} {w0 w : World} {Γ : List A} {b : Nat} {l : List Pr2} (hT : T F w0 w Γ) (hm : mapPr b l ∈ Γ) (k : Pr2) :
    (Instr.lookup 172 (.map (some b)) (prV k) false).run Tryz.prog w = .ok (.bool (decide (k ∈ l))) w := by
  have hu : Tryz.prog.underlying 172 = some (.map 173 4) := by kernel_rfl
  have h1 : (Instr.checkKey (prE l).toArray.isEmpty 10000 173 (prV k)).run Tryz.prog w = .ok () w := pr_check 9998 _ k w
  have h2 := findKey_pr k l w
  have hz : (zeroValue 4).run Tryz.prog w = .ok (.bool false) w := by kernel_rfl
  have hb := hT.got hm
  simp only [Instr.lookup, Sem.run_bind, run_underlying hu, Result.andThen_ok, getObj, Sem.run, hb, Sem.run_pure, h1, h2]
  obtain ⟨f1, f2⟩ := findPr_mem k l 0
  by_cases hk : k ∈ l
  · obtain ⟨j, hj⟩ := f1 hk
    rw [hj, decide_eq_true hk]; rfl
  · rw [f2 hk, decide_eq_false hk]
    simp [hz]
theorem update_pr {F : List Nat} {w0 w : World} {Γ Γ' : List A} {b : Nat} {l : List Pr2} (hT : T F w0 w Γ) {k : Pr2} (hk : k ∉ l) (hu : Turn (mapPr b l) (mapPr b (l ++ [k])) Γ Γ') :
    ∃ w', (Instr.mapUpdate 172 (.map (some b)) (prV k) (.bool true)).run Tryz.prog w = .ok () w' ∧ T F w0 w' Γ' := by
  have hd : Tryz.prog.underlying 172 = some (.map 173 4) := by kernel_rfl
  have h1 : (Instr.checkKey false 10000 173 (prV k)).run Tryz.prog w = .ok () w := pr_check 9998 _ k w
  have h2 := findKey_pr k l w
  rw [(findPr_mem k l 0).2 hk] at h2
  obtain ⟨Δ, hp1, _⟩ := hu.perm
  have hb : w.heap[b]? = some (.map (prE l).toArray l.length) := hT.got (hp1.mem_iff.2 List.mem_cons_self)
  have ho := getObj_map (P := Tryz.prog) hb
  have hs := setObj_run (P := Tryz.prog) (o' := .map ((prE l).toArray.push ⟨prV k, .bool true, l.length⟩) (l.length + 1)) hb (fun _ _ _ h => by cases h)
  refine ⟨_, ?_, hT.set hu⟩
  have e1 : (prE (l ++ [k])).toArray = (prE l).toArray.push ⟨prV k, .bool true, l.length⟩ := by rw [prE_snoc]; simp
  have e2 : (l ++ [k]).length = l.length + 1 := by simp
  rw [e1, e2]
  simp only [Instr.mapUpdate, Sem.run_bind, run_underlying hd, Result.andThen_ok, ho, h1, h2, hs]
end Go.Proofs.YtbecjmfcppginaaGreat
end
section
/-! crc: numbers of 32 bits, bit by bit. -/
namespace Go.Proofs.YtbecjmfcppginaaGreat
open Go.Sh Go.RowKit
set_option linter.unusedVariables false
set_option maxRecDepth 20000
set_option maxHeartbeats 1000000
abbrev B32 := BitVec 32
/-- a number of 32 bits, as a value -/
abbrev u32v (x : B32) : Value := .int .u32 (x.toNat : Int)
theorem wrap32 (n : Int) (h : 0 ≤ n) (h' : n < 4294967296) : IntKind.u32.wrap n = n := by
  have e : IntKind.u32.wrap n = n % 4294967296 := by simp [IntKind.wrap, IntKind.bits, IntKind.signed]
  rw [e]; omega
theorem wrapU64 (n : Int) : IntKind.u64.wrap n = n % 18446744073709551616 := by simp [IntKind.wrap, IntKind.bits, IntKind.signed]
theorem ofInt32 (x : B32) : BitVec.ofInt 32 (x.toNat : Int) = x := by
  apply BitVec.eq_of_toNat_eq
  simp
theorem b32_lt (x : B32) : (x.toNat : Int) < 4294967296 := by have := x.isLt; omega
theorem xor32 (x y : B32) : bits2 .xor .u32 (x.toNat : Int) (y.toNat : Int) = ((x ^^^ y).toNat : Int) := by
  unfold bits2
  simp only [IntKind.bits, ofInt32]
  exact wrap32 _ (by omega) (b32_lt _)
theorem and32 (x y : B32) : bits2 .and .u32 (x.toNat : Int) (y.toNat : Int) = ((x &&& y).toNat : Int) := by
  unfold bits2
  simp only [IntKind.bits, ofInt32]
  exact wrap32 _ (by omega) (b32_lt _)
theorem shr32 (x : B32) (k : Nat) : Int.fdiv (x.toNat : Int) (2 ^ k) = ((x >>> k).toNat : Int) := by
  rw [BitVec.toNat_ushiftRight, Nat.shiftRight_eq_div_pow, Int.fdiv_eq_ediv_of_nonneg _ (Int.le_of_lt (Int.pow_pos (by decide)))]
  push_cast
  rfl
def poly : B32 := 0x82f63b78#32
/-- one bit -/
def step1 (x : B32) : B32 := (x >>> 1) ^^^ (poly * (x &&& 1#32))
def step4 (x : B32) : B32 := step1 (step1 (step1 (step1 x)))
theorem step1_bit (x : B32) : step1 x = (x >>> 1) ^^^ (if x.getLsbD 0 then poly else 0#32) := by
  unfold step1
  congr 1
  have h : x &&& 1#32 = if x.getLsbD 0 then 1#32 else 0#32 := by
    apply BitVec.eq_of_getLsbD_eq
    intro i hi
    by_cases h0 : i = 0
    · subst h0
      rw [BitVec.getLsbD_and]
      cases hx : x.getLsbD 0 <;> rfl
    · have h1 : (1#32).getLsbD i = false := by
        rw [BitVec.getLsbD_one]; simp; omega
      rw [BitVec.getLsbD_and, h1, Bool.and_false]
      split
      · exact h1.symm
      · simp
  rw [h]
  split
  · exact BitVec.mul_one ..
  · exact BitVec.mul_zero ..
theorem step1_xor (x y : B32) : step1 (x ^^^ y) = step1 x ^^^ step1 y := by
  rw [step1_bit, step1_bit, step1_bit]
  apply BitVec.eq_of_getLsbD_eq
  intro i hi
  simp only [BitVec.getLsbD_xor, BitVec.getLsbD_ushiftRight]
  cases x.getLsbD 0 <;> cases y.getLsbD 0 <;> simp <;> (try (generalize poly.getLsbD i = p)) <;> (generalize x.getLsbD (1 + i) = a) <;> (generalize y.getLsbD (1 + i) = b) <;> revert a b <;> simp <;> (try (revert p; decide)) <;> (try decide)
theorem step4_xor (x y : B32) : step4 (x ^^^ y) = step4 x ^^^ step4 y := by simp only [step4, step1_xor]
theorem step1_even {x : B32} (h : x.getLsbD 0 = false) : step1 x = x >>> 1 := by rw [step1_bit, h]; simp
theorem step4_high (x : B32) : step4 (x &&& 0xfffffff0#32) = x >>> 4 := by
  have hg : ∀ i, (x &&& 0xfffffff0#32).getLsbD i = (decide (4 ≤ i) && x.getLsbD i) := by
    intro i
    rw [BitVec.getLsbD_and]
    by_cases hi : i < 32
    · have : (0xfffffff0#32).getLsbD i = decide (4 ≤ i) := by
        have : ∀ i : Fin 32, (0xfffffff0#32).getLsbD i.val = decide (4 ≤ i.val) := by decide
        exact this ⟨i, hi⟩
      rw [this, Bool.and_comm]
    · rw [BitVec.getLsbD_of_ge _ _ (by omega)]; simp
  generalize hy : x &&& 0xfffffff0#32 = y at hg
  have s : ∀ (k : Nat) (z : B32), k < 4 → (∀ i, z.getLsbD i = (decide (4 ≤ k + i) && x.getLsbD (k + i))) → ∀ i, (step1 z).getLsbD i = (decide (4 ≤ k + 1 + i) && x.getLsbD (k + 1 + i)) := by
    intro k z hk hz i
    rw [step1_even (by rw [hz, decide_eq_false (by omega), Bool.false_and]), BitVec.getLsbD_ushiftRight, hz, show k + (1 + i) = k + 1 + i by omega]
  have h := s 3 _ (by decide) (s 2 _ (by decide) (s 1 _ (by decide) (s 0 y (by decide) (fun i => by rw [hg, Nat.zero_add]))))
  apply BitVec.eq_of_getLsbD_eq
  intro i hi
  unfold step4
  rw [h, BitVec.getLsbD_ushiftRight, decide_eq_true (by omega), Bool.true_and]
/-- half a byte by the table -/
def half (x : B32) : B32 := (x >>> 4) ^^^ step4 (x &&& 15#32)
theorem half_step4 (x : B32) : half x = step4 x := by
  have h : x = (x &&& 0xfffffff0#32) ^^^ (x &&& 15#32) := by
    apply BitVec.eq_of_getLsbD_eq
    intro i hi
    have h1 : ∀ i : Fin 32, (0xfffffff0#32).getLsbD i.val = !(15#32).getLsbD i.val := by decide
    have h2 := h1 ⟨i, hi⟩
    simp only [BitVec.getLsbD_xor, BitVec.getLsbD_and] at *
    rw [h2]
    cases x.getLsbD i <;> cases (15#32).getLsbD i <;> rfl
  unfold half
  conv => rhs; rw [h, step4_xor, step4_high]
def byte32 (b : UInt8) : B32 := BitVec.ofNat 32 b.toNat
/-- one byte -/
def crcB (x : B32) (b : UInt8) : B32 := step4 (step4 (x ^^^ byte32 b))
def crcMore (n : B32) (s : List UInt8) : B32 := ~~~ (s.foldl crcB (~~~ n))
def crcSum (s : List UInt8) : B32 := crcMore 0#32 s
def four (n : B32) : List UInt8 := [UInt8.ofNat n.toNat, UInt8.ofNat (n.toNat / 256), UInt8.ofNat (n.toNat / 65536), UInt8.ofNat (n.toNat / 16777216)]
end Go.Proofs.YtbecjmfcppginaaGreat
end
section
/-! crc: the table, More, Sum, bytes. -/
namespace Go.Proofs.YtbecjmfcppginaaGreat
open Go.Sh Go.RowKit
set_option linter.unusedVariables false
set_option maxRecDepth 20000
set_option maxHeartbeats 1000000
def it1 : Nat → B32 → B32
  | 0, x => x
  | j + 1, x => step1 (it1 j x)
theorem step1_val (x : B32) : bits2 .xor .u32 (Int.fdiv (x.toNat : Int) (2 ^ 1)) (IntKind.u32.wrap (2197175160 * (bits2 .and .u32 (x.toNat : Int) 1))) = ((step1 x).toNat : Int) := by
  have h1 : bits2 .and .u32 (x.toNat : Int) 1 = ((x &&& 1#32).toNat : Int) := and32 x 1#32
  have h2 : IntKind.u32.wrap (2197175160 * ((x &&& 1#32).toNat : Int)) = ((poly * (x &&& 1#32)).toNat : Int) := by
    have e : IntKind.u32.wrap (2197175160 * ((x &&& 1#32).toNat : Int)) = (2197175160 * ((x &&& 1#32).toNat : Int)) % 4294967296 := by simp [IntKind.wrap, IntKind.bits, IntKind.signed]
    rw [e, BitVec.toNat_mul]
    have : poly.toNat = 2197175160 := rfl
    rw [this, Int.natCast_emod, Int.natCast_mul]
    rfl
  rw [h1, h2, shr32 x 1, xor32]
  rfl
def tabC (n : Nat) : Array Value := ((List.range 16).map fun i => if i < n then u32v (step4 (BitVec.ofNat 32 i)) else .int .u32 0).toArray
theorem tabC_size (n : Nat) : (tabC n).size = 16 := by simp [tabC]
theorem tabC_get (n i : Nat) (hi : i < 16) : (tabC n)[i]? = some (if i < n then u32v (step4 (BitVec.ofNat 32 i)) else .int .u32 0) := by
  simp [tabC, hi]
theorem tabC_step (n : Nat) (hn : n < 16) : (tabC n).setIfInBounds n (u32v (step4 (BitVec.ofNat 32 n))) = tabC (n + 1) := by
  apply Array.ext_getElem?
  intro i
  by_cases hi : i < 16
  · rw [Array.getElem?_setIfInBounds, tabC_get (n + 1) i hi, tabC_size]
    by_cases h : n = i
    · subst h; simp [hn]
    · rw [if_neg h, tabC_get n i hi]
      congr 1
      by_cases h2 : i < n
      · rw [if_pos h2, if_pos (by omega)]
      · rw [if_neg h2, if_neg (by omega)]
  · rw [Array.getElem?_eq_none (by simp [tabC_size]; omega), Array.getElem?_eq_none (by simp [tabC_size]; omega)]
theorem storeBig_t {P : Program} {t0 : TypeId} {i : TypeInfo} {F : List Nat} {w0 w : World} {Γ Δ : List A} {b : Nat} {c cs : Array Value} {t : TypeId} (hT : T F w0 w Γ) (hk : Pick (blk b c t) Γ Δ) (hi : P.info? t0 = some i) (hs : cs.size = P.cellsOf t0)
    (hv : ∀ v ∈ cs.toList, scalar v = true) (hl : cs.size = c.size) : ∃ w', (Instr.storeAt t0 (.pointer (some ⟨b, 0, none⟩)) (.agg cs)).run P w = .ok () w' ∧ T F w0 w' (blk b cs t :: Δ) := by
  obtain ⟨w', h1, h2⟩ := stBig.t (P := P) (K := fun _ w' => T F w0 w' (blk b (putAt c 0 cs.toList) t :: Δ)) hT hk hi hs hv (by omega) fun w' h => h
  rw [putAt_all hl.symm] at h2
  exact ⟨w', h1, h2⟩
theorem tabC_scalar (n : Nat) : ∀ v ∈ (tabC n).toList, scalar v = true := by
  intro v hv
  simp only [tabC, List.mem_map] at hv
  obtain ⟨i, _, rfl⟩ := hv
  split <;> rfl
theorem table_spec (w : World) : Ret Tryz.prog 115 #[] w (.agg (tabC 16)) := by
  refine ret_of (crc_table_calls ?_)
  unfold crc_table
  refine Alloc.t (T.nil w) fun k0 w1 h1 => Alloc.t h1 fun k1 w2 h2 => ?_
  have h2' : T [] w w2 [blk k1 (tabC 0) 170, blk k0 (tabC 0) 170] := h2
  refine ⟨fun vs w' => ∃ n : Nat, vs = [.int .i64 n] ∧ n ≤ 16 ∧ T [] w w' [blk k1 (tabC n) 170, blk k0 (tabC 0) 170], fun vs _ => match vs with | [.int _ n] => (16 - n).toNat | _ => 0, ⟨0, rfl, by omega, h2'⟩, ?_⟩
  rintro vs w3 ⟨n, rfl, hn, h3⟩
  refine ⟨_, rfl, dec_t fun hlt => ?_, dec_f fun hge => ?_⟩
  · have hlt : n < 16 := by omega
    have e0 : IntKind.u32.wrap (n : Int) = ((it1 0 (BitVec.ofNat 32 n)).toNat : Int) := by
      rw [wrap32 _ (by omega) (by omega)]
      show (n : Int) = ((BitVec.ofNat 32 n).toNat : Int)
      rw [BitVec.toNat_ofNat]; omega
    refine ⟨fun vs w' => ∃ j : Nat, vs = [u32v (it1 j (BitVec.ofNat 32 n)), .int .i64 j] ∧ j ≤ 4 ∧ T [] w w' [blk k1 (tabC n) 170, blk k0 (tabC 0) 170], fun vs _ => match vs with | [_, .int _ j] => (4 - j).toNat | _ => 0, ⟨0, by rw [e0]; rfl, by omega, h3⟩, ?_⟩
    rintro vs w4 ⟨j, rfl, hj, h4⟩
    refine ⟨_, _, rfl, dec_t fun hjl => ⟨⟨j + 1, ?_, by omega, h4⟩, ?_⟩, dec_f fun hjg => ⟨by omega, by omega, ?_⟩⟩
    · rw [step1_val, wrap64 _ (by omega) (by omega)]; rfl
    · show ((4 : Int) - IntKind.i64.wrap ((j : Int) + 1)).toNat < ((4 : Int) - (j : Int)).toNat
      rw [wrap64 _ (by omega) (by omega)]; omega
    · have hj4 : j = 4 := by omega
      subst hj4
      rw [addr_add, Nat.zero_add, Nat.mul_one, show ((n : Nat) : Int).toNat = n by omega]
      refine St.t h4 .head (by rw [tabC_size]; omega) (tabC_step n hlt) rfl fun w5 h5 => ⟨⟨n + 1, ?_, by omega, h5⟩, ?_⟩
      · rw [wrap64 _ (by omega) (by omega)]; rfl
      · show ((16 : Int) - IntKind.i64.wrap ((n : Int) + 1)).toNat < ((16 : Int) - (n : Int)).toNat
        rw [wrap64 _ (by omega) (by omega)]; omega
  · have hn16 : n = 16 := by omega
    subst hn16
    obtain ⟨w6, hr, h6⟩ := storeBig_t (P := Tryz.prog) (t0 := 170) (i := Tryz.t170) (cs := tabC 16) h3 (.tail .head) (by kernel_rfl) (by rw [tabC_size]; kernel_rfl) (tabC_scalar 16) (by rw [tabC_size, tabC_size])
    refine ⟨tabC 16, tabC_size 16, T.big h3 (by repeat (first | exact List.Mem.head _ | refine List.Mem.tail _ ?_)) (fun i _ => by rw [Nat.zero_add]), w6, hr, tabC 16, tabC_size 16, T.big h6 (by repeat (first | exact List.Mem.head _ | refine List.Mem.tail _ ?_)) (fun i _ => by rw [Nat.zero_add]), rfl, h6.chg.ext⟩
theorem half_spec {F : List Nat} {w0 w : World} {Γ : List A} {kx kt : Nat} {x : B32} {tx : TypeId} (hT : T F w0 w (blk kx #[u32v x] tx :: Γ)) (ht : blk kt (tabC 16) 170 ∈ Γ) {Φ : Ending → World → Prop}
    (hΦ : ∀ w', T F w0 w' (blk kx #[u32v (step4 x)] tx :: Γ) → Φ (.returned (.tuple #[])) w') :
    Calls Tryz.prog 116 #[.pointer (some ⟨kx, 0, none⟩), .pointer (some ⟨kt, 0, none⟩)] w Φ := by
  refine (crc_More_1_calls (R := fun v w' => v = .tuple #[] ∧ T F w0 w' (blk kx #[u32v (step4 x)] tx :: Γ)) ?_).mono fun e w' ⟨v, he, hv, h⟩ => by rw [he, hv]; exact hΦ w' h
  unfold crc_More_1
  have hd := hT.drew
  have ha : bits2 .and .u32 (x.toNat : Int) 15 = ((x &&& 15#32).toNat : Int) := and32 x 15#32
  have hlt : (x &&& 15#32).toNat < 16 := by
    rw [BitVec.toNat_and]
    exact Nat.lt_of_le_of_lt Nat.and_le_right (by decide)
  refine ⟨fun w => T F w0 w (blk kx #[u32v x] tx :: Γ), hd, _, fun w h => h.ld List.mem_cons_self rfl, _, fun w h => h.ld List.mem_cons_self rfl, by rw [ha]; omega, by rw [ha]; omega, ((step4 (x &&& 15#32)).toNat : Int), fun w h => ?_, ?_⟩
  · rw [ha, addr_add, Nat.zero_add, Nat.mul_one, Int.toNat_natCast]
    refine h.ld (List.mem_cons_of_mem _ ht) ?_
    rw [tabC_get 16 _ hlt, if_pos hlt, BitVec.ofNat_toNat]
    simp
  · rw [shr32 x 4, xor32]
    refine St.t hd .head (by simp) (by rfl) rfl fun w1 h1 => ⟨rfl, ?_⟩
    rw [← half_step4]
    exact h1
theorem more_spec (n : B32) (s : ByteArray) (hs : s.size ≤ 1000000000) (w : World) : Ret Tryz.prog 102 #[u32v n, .string s] w (u32v (crcMore n s.data.toList)) := by
  refine ret_of (crc_More_calls ?_)
  unfold crc_More
  refine (table_spec w).mono fun e w1 ⟨he, hx⟩ => ⟨_, tabC_size 16, he, ?_⟩
  have h1 : T [] w w1 [] := (T.nil w).quiet hx
  refine Alloc.t h1 fun k5 w2 h2 => ?_
  have h2' : T [] w w2 [blk k5 (tabC 0) 170] := h2
  obtain ⟨w3, hr, h3⟩ := storeBig_t (P := Tryz.prog) (t0 := 170) (i := Tryz.t170) (cs := tabC 16) h2' .head (by kernel_rfl) (by rw [tabC_size]; kernel_rfl) (tabC_scalar 16) (by rw [tabC_size, tabC_size])
  refine ⟨w3, hr, Alloc.t h3 fun k6 w4 h4 => ?_⟩
  have en : bits2 .xor .u32 IntKind.u32.max (n.toNat : Int) = ((~~~ n).toNat : Int) := by
    have : IntKind.u32.max = (((-1#32 : B32)).toNat : Int) := by decide
    rw [this, xor32]
    congr 2
  rw [en]
  refine St.t h4 .head (by simp) (by rfl) rfl fun w5 h5 => ?_
  have hl : s.data.toList.length = s.size := Array.length_toList
  refine ⟨fun vs w' => ∃ i : Nat, vs = [.int .i64 i] ∧ i ≤ s.size ∧ T [] w w' [blk k6 #[u32v ((s.data.toList.take i).foldl crcB (~~~ n))] 131, blk k5 (tabC 16) 170], fun vs _ => match vs with | [.int _ i] => (s.size - i).toNat | _ => 0, ⟨0, rfl, by omega, h5⟩, ?_⟩
  rintro vs w6 ⟨i, rfl, hi, h6⟩
  refine ⟨_, rfl, dec_t fun hlt => ?_, dec_f fun hge => ?_⟩
  · have hlt : i < s.size := by omega
    have hd := h6.drew
    have hb : ((s.data.toList.getD i 0).toNat : Int) < 256 := by have := (s.data.toList.getD i 0).toNat_lt; omega
    have ex : ∀ x : B32, bits2 .xor .u32 (x.toNat : Int) (IntKind.u32.wrap ((s.data.toList.getD i 0).toNat : Int)) = ((x ^^^ byte32 (s.data.toList.getD i 0)).toNat : Int) := by
      intro x
      have : IntKind.u32.wrap ((s.data.toList.getD i 0).toNat : Int) = ((byte32 (s.data.toList.getD i 0)).toNat : Int) := by
        rw [wrap32 _ (by omega) (by omega)]
        unfold byte32
        rw [BitVec.toNat_ofNat]
        omega
      rw [this, xor32]
    refine ⟨fun w' => T [] w w' _, hd, _, fun w h => h.ld (by repeat (first | exact List.Mem.head _ | refine List.Mem.tail _ ?_)) rfl, ((s.data.toList.getD i 0).toNat : Int), fun w h => ?_, ?_⟩
    · have := index_str (P := Tryz.prog) (t := 9) (k := .i64) (n := i) (s := s) (w := w) (by kernel_rfl) (by omega) (by omega)
      rwa [show ((i : Nat) : Int).toNat = i by omega] at this
    · rw [ex]
      refine St.t hd .head (by simp) (by rfl) rfl fun w7 h7 => ?_
      refine half_spec h7 (by repeat (first | exact List.Mem.head _ | refine List.Mem.tail _ ?_)) fun w8 h8 => ⟨rfl, half_spec h8 (by repeat (first | exact List.Mem.head _ | refine List.Mem.tail _ ?_)) fun w9 h9 => ⟨rfl, ⟨i + 1, ?_, by omega, ?_⟩, ?_⟩⟩
      · rw [wrap64 _ (by omega) (by omega)]; rfl
      · have : (s.data.toList.take (i + 1)).foldl crcB (~~~ n) = crcB ((s.data.toList.take i).foldl crcB (~~~ n)) (s.data.toList.getD i 0) := by
          rw [List.take_add_one, List.getElem?_eq_getElem (by omega), List.getD_eq_getElem?_getD, List.getElem?_eq_getElem (by omega)]
          simp
        rw [this]
        exact h9
      · show ((s.size : Int) - IntKind.i64.wrap ((i : Int) + 1)).toNat < ((s.size : Int) - (i : Int)).toNat
        rw [wrap64 _ (by omega) (by omega)]; omega
  · have hie : i = s.size := by omega
    subst hie
    rw [List.take_of_length_le (by omega)] at h6
    refine ⟨_, h6.ld (by repeat (first | exact List.Mem.head _ | refine List.Mem.tail _ ?_)) rfl, ?_, h6.chg.ext⟩
    have en2 : ∀ x : B32, bits2 .xor .u32 IntKind.u32.max (x.toNat : Int) = ((~~~ x).toNat : Int) := by
      intro x
      have : IntKind.u32.max = (((-1#32 : B32)).toNat : Int) := by decide
      rw [this, xor32]
      congr 2
    rw [en2]
    rfl
theorem sum_spec (s : ByteArray) (hs : s.size ≤ 1000000000) (w : World) : Ret Tryz.prog 78 #[.string s] w (u32v (crcSum s.data.toList)) := by
  refine ret_of (crc_Sum_calls ?_)
  unfold crc_Sum
  exact (more_spec 0#32 s hs w).mono fun e w1 ⟨he, hx⟩ => ⟨_, he, rfl, hx⟩
end Go.Proofs.YtbecjmfcppginaaGreat
end
section
/-! A row's end, of a call that makes no more than new memory. -/
namespace Go.Sh
open Go.RowKit Go.ChangeShapes Go.WideShapes
theorem Ext.kept {W W' : World} (h : Ext W W') (may : MemPlace → Prop) : W.keptBut W' may := by
  refine ⟨h.os, h.output, fun i hi => ?_⟩
  rw [h.heap i hi]
  cases hw : W.heap[i]? with
  | none => simp
  | some o => cases o <;> simp
theorem Ext.frozen {W W' : World} (h : Ext W W') {a : Addr} (ha : a.block < W.heap.size) : W'.frozen? a = W.frozen? a := by simp only [World.frozen?, h.heap _ ha]
theorem post_ext {P : Program} {H : Type} {enc : TypeId × Value → H} {f : Func} {s : ChangeSpec} {apart fresh handsOn again : Bool} {W W' : World} {args : Array Value} {v : Value} {ds gs : List (DataW H)} {before pa pv : List MemPlace}
    (hW : DataW.Whole enc P f.params.toList s.vars apart W args.toList ds gs before)
    (hres : ∀ (b : Nat) (sp : Nat → Bool) (hd : Bool), DataW.TrodAll enc P W' b sp hd f.resultTypes.toList (v.resultList f.resultTypes.size) (s.fn H (ds ++ gs)).results [])
    (hargs : ∀ sp : Nat → Bool, (∀ p ∈ before, sp p.block = true) → DataW.TrodAll enc P W' 0 sp true f.params.toList args.toList (s.fn H (ds ++ gs)).args pa)
    (hvars : ∀ sp : Nat → Bool, (∀ p ∈ before, sp p.block = true) → DataW.TrodVars enc P W' sp s.vars (s.fn H (ds ++ gs)).vars pv)
    (hps : before = pa ++ pv) (hx : Ext W W')
    (hok : ∀ (j : Nat) (t : TypeId) (r : Value), f.resultTypes[j]? = some t → (v.resultList f.resultTypes.size)[j]? = some r → Value.okWide P W' .any 0 t r) :
    s.post enc P f apart fresh handsOn again W args v W' := by
  have hlt : ∀ p ∈ before, p.block < W.heap.size := hW.lt
  have hold : ∀ p ∈ before, (fun b => decide (b < W.heap.size)) p.block = true := fun p hp => by simpa using hlt p hp
  refine ⟨ds, gs, before, [], pa, pv, hW, hres _ _ _, hargs _ hold, hvars _ hold, World.keptBut_mono (fun p hp => ⟨hp, ?_⟩) (hx.kept (· ∈ before)), fun _ => ?_⟩
  · rw [hps, List.mem_append] at hp
    exact Or.inr hp
  · obtain ⟨_, _, _, _, _, hz, hn⟩ := hW
    refine ⟨hok, _, _, ([] ++ pa) ++ pv, ⟨[] ++ pa, pv, trodAll_append (hargs _ (fun _ _ => rfl)) (hres _ _ _), hvars _ (fun _ _ => rfl), rfl, ?_, ?_⟩, ?_⟩
    · intro b off hp
      have hb : (MemPlace.cell b off) ∈ before := by rw [hps]; simpa using hp
      rw [hx.frozen (hlt _ hb)]
      exact hz b off hb
    · intro ha
      have := hn ha
      rw [hps] at this
      simpa using this
    · intro p hp _
      rw [hps]
      simpa using hp
theorem u8_of {a : Int} (h : (Lit.int .u8 a).wf = true) : 0 ≤ a ∧ a ≤ 255 := by
  simp [Lit.wf, IntKind.min, IntKind.max, IntKind.bits, IntKind.signed] at h
  omega
theorem u16_of {a : Int} (h : (Lit.int .u16 a).wf = true) : 0 ≤ a ∧ a ≤ 65535 := by
  simp [Lit.wf, IntKind.min, IntKind.max, IntKind.bits, IntKind.signed] at h
  omega
theorem i64_of {a : Int} (h : (Lit.int .i64 a).wf = true) : -9223372036854775808 ≤ a ∧ a ≤ 9223372036854775807 := by
  simp [Lit.wf, IntKind.min, IntKind.max, IntKind.bits, IntKind.signed] at h
  omega
end Go.Sh
end
section
/-! A law's row: what its arguments tell, and that they read as they did. -/
namespace Go.Sh
open Go.ChangeShapes Go.WideShapes Go.ChangeAt Go.RowKit
set_option linter.unusedVariables false
theorem Ext.same {W W' : World} (h : Ext W W') {p : MemPlace} (hp : p.block < W.heap.size) : W.sameAt W' p := by
  cases p with
  | cell b o => show W'.cell? ⟨b, o, none⟩ = W.cell? ⟨b, o, none⟩; unfold World.cell?; rw [h.heap b hp]
  | map b => show W'.heap[b]? = W.heap[b]?; exact h.heap b hp
theorem trodAll_carry {H : Type} {enc : TypeId × Value → H} {P : Program} {W W' : World} {sp : Nat → Bool} : ∀ {ts : List TypeId} {vs : List Value} {ds : List (DataW H)} {ps : List MemPlace}, DataW.TrodAll enc P W 0 sp true ts vs ds ps → (∀ p ∈ ps, W.sameAt W' p) → DataW.TrodAll enc P W' 0 sp true ts vs ds ps
  | [], [], [], _, h, _ => h
  | _ :: _, _ :: _, _ :: _, _, ⟨p, q, ⟨n, h1⟩, h2, e⟩, hs => ⟨p, q, ⟨n, DataW.trod_carry n _ _ _ h1 fun x hx => hs x (by rw [e]; exact List.mem_append_left _ hx)⟩, trodAll_carry h2 fun x hx => hs x (by rw [e]; exact List.mem_append_right _ hx), e⟩
theorem law_post {P : Program} {H : Type} {enc : TypeId × Value → H} {f : Func} {s : ChangeSpec} {apart fresh handsOn again : Bool} {W W' : World} {args : Array Value} {ds gs : List (DataW H)} {before : List MemPlace} {tb : TypeId}
    (hl : laidOutB P = true) (hm : mapsRowed P = true) (hz : ((List.range P.types.size).all fun t => match P.underlying t with | some (.slice e) => decide (0 < P.cellsOf e) | _ => true) = true) (htp : (f.params.toList.all fun t => decide (t < P.types.size)) = true)
    (hW : DataW.Whole enc P f.params.toList s.vars apart W args.toList ds gs before) (hv : s.vars = []) (hargs : (s.fn H (ds ++ gs)).args = ds) (hres : (s.fn H (ds ++ gs)).results = [.lit (.bool true)]) (hvars : (s.fn H (ds ++ gs)).vars = [])
    (hrt : f.resultTypes = #[tb]) (htb : P.underlying tb = some .bool) (hx : Ext W W') : s.post enc P f apart fresh handsOn again W args (.bool true) W' := by
  have hlt := hW.lt
  have hW' := hW
  obtain ⟨p, q, hA, hV, rfl, hfz, hnd⟩ := hW
  rw [hv] at hV
  obtain ⟨rfl, rfl⟩ := trodVars_none hV
  rw [List.append_nil] at hW' hlt
  have hT : ∀ t ∈ f.params.toList, t < P.types.size := fun t ht => by simpa using List.all_eq_true.1 htp t ht
  refine post_ext (pa := p) (pv := []) hW' (fun _ _ _ => ?_) (fun sp hsp => ?_) (fun sp _ => ?_) (by simp) hx ?_
  · rw [hres, hrt]
    exact trodAll_cons_mk (shut_bool htb _) trodAll_mk0
  · rw [hargs]
    exact DataW.TrodAll.respare (kids_rows hl hm) (slices_full_of P hz) hT (trodAll_carry hA fun x hx' => hx.same (hlt x hx')) hsp
  · rw [hvars, hv]; rfl
  · exact ok_one hrt rfl (okWide_bool_mk htb _)
section
variable {P : Program} {H : Type} {enc : TypeId × Value → H} {w : World} {t e : TypeId} {v : Value} {d : DataW H} {ps : List MemPlace} {r : Reach} {b0 : Nat}
theorem open_strs (ht : P.underlying t = some (.slice e)) (he : P.underlying e = some .string) (hc : P.cellsOf e = 1) (hval : Value.okWide P w r b0 t v) (hd : DataW.Trod enc P w 0 (fun _ => true) true t v d ps) :
    ∃ (p : Option Addr) (c : Nat) (l : List ByteArray), v = .slice p l.length c ∧ (l ≠ [] → ∃ a, p = some a) ∧ (∀ a, p = some a → ∀ j s, l[j]? = some s → w.cell? (a.add j) = some (.string s)) ∧ ∀ s ∈ l, s.size ≤ maxLen := by
  obtain ⟨a0, len, cap, rfl⟩ := okWide_slice ht hval
  obtain ⟨fuel, hf⟩ := hd
  rcases open_strings ht he hc hf with ⟨h0, -⟩ | ⟨a, len', cap', ss, h0, h1, h2, h3, h4, h5, h6, h7⟩
  · have : a0 = none ∧ len = 0 ∧ cap = 0 := by simpa [Value.cells] using h0
    obtain ⟨rfl, rfl, rfl⟩ := this
    exact ⟨none, 0, [], rfl, fun h => absurd rfl h, (fun a ha => by cases ha), fun s hs => by cases hs⟩
  · have : a0 = some a ∧ len = len' ∧ cap = cap' := by simpa [Value.cells] using h0
    obtain ⟨rfl, rfl, rfl⟩ := this
    simp only [if_true] at h4
    refine ⟨some a, cap, ss.take len, by rw [List.length_take]; congr 1; omega, fun _ => ⟨a, rfl⟩, fun a' ha' j s hs => ?_, fun s hs => h7 s (List.mem_of_mem_take hs)⟩
    cases ha'
    rw [List.getElem?_take] at hs
    split at hs
    · have hj := (List.getElem?_eq_some_iff.1 hs).1
      rw [h6 j hj, List.getD_eq_getElem?_getD, hs]; rfl
    · cases hs
theorem open_u8s (ht : P.underlying t = some (.slice e)) (he : P.underlying e = some (.int .u8)) (hc : P.cellsOf e = 1) (hval : Value.okWide P w r b0 t v) (hd : DataW.Trod enc P w 0 (fun _ => true) true t v d ps) :
    ∃ (p : Option Addr) (c : Nat) (l : List UInt8), v = .slice p l.length c ∧ (l ≠ [] → ∃ a, p = some a) ∧ (∀ a, p = some a → ∀ j (s : UInt8), l[j]? = some s → w.cell? (a.add j) = some (.int .u8 s.toNat)) := by
  obtain ⟨a0, len, cap, rfl⟩ := okWide_slice ht hval
  obtain ⟨fuel, hf⟩ := hd
  rcases open_ints ht he hc hf with ⟨h0, -⟩ | ⟨a, len', cap', ss, h0, h1, h2, h3, h4, h5, h6, h7⟩
  · have : a0 = none ∧ len = 0 ∧ cap = 0 := by simpa [Value.cells] using h0
    obtain ⟨rfl, rfl, rfl⟩ := this
    exact ⟨none, 0, [], rfl, fun h => absurd rfl h, (fun a ha => by cases ha)⟩
  · have : a0 = some a ∧ len = len' ∧ cap = cap' := by simpa [Value.cells] using h0
    obtain ⟨rfl, rfl, rfl⟩ := this
    simp only [if_true] at h4
    refine ⟨some a, cap, (ss.take len).map fun n => UInt8.ofNat n.toNat, by rw [List.length_map, List.length_take]; congr 1; omega, fun _ => ⟨a, rfl⟩, fun a' ha' j s hs => ?_⟩
    cases ha'
    rw [List.getElem?_map, List.getElem?_take] at hs
    split at hs
    · cases hz : ss[j]? with
      | none => rw [hz] at hs; cases hs
      | some z =>
        rw [hz] at hs
        simp only [Option.map_some, Option.some.injEq] at hs
        have hj := (List.getElem?_eq_some_iff.1 hz).1
        have hw := u8_of (h7 z (List.mem_of_getElem? hz))
        rw [h6 j hj, List.getD_eq_getElem?_getD, hz]
        have : ((UInt8.ofNat z.toNat).toNat : Int) = z := by simp; omega
        rw [← hs, this]; rfl
    · cases hs
end
end Go.Sh
namespace Go.Proofs.YtbecjmfcppginaaGreat
theorem own : ownKnob Tryz.prog.godebug = none := by kernel_rfl
theorem rows_laid : laidOutB Tryz.prog = true := by kernel_rfl
theorem rows_maps : mapsRowed Tryz.prog = true := by kernel_rfl
theorem rows_full : ((List.range Tryz.prog.types.size).all fun t => match Tryz.prog.underlying t with | some (.slice e) => decide (0 < Tryz.prog.cellsOf e) | _ => true) = true := by kernel_rfl
end Go.Proofs.YtbecjmfcppginaaGreat
end
