import Derived.Laws.StructEq
import Derived.Test.YtmipjkalfodcpaaDoorM3
import Derived.Test.YtmipjkalfodcpaaDoorM4
import Derived.Test.YtmipjkalfodcpaaDoorM9
section
/-! pages: Join. -/
namespace Go.Proofs.YtmipjkalfodcpaaDoor
open Go.Sh Go.RowKit
set_option linter.unusedVariables false
set_option linter.unusedSimpArgs false
set_option maxRecDepth 20000
set_option maxHeartbeats 1000000
theorem u8_or (x y : UInt8) : bits2 .or .u8 (x.toNat : Int) (y.toNat : Int) = ((x ||| y).toNat : Int) := by
  have hx := x.toNat_lt; have hy := y.toNat_lt
  unfold bits2
  simp only [IntKind.bits]
  rw [show BitVec.ofInt 8 ((x.toNat : Nat) : Int) = BitVec.ofNat 8 x.toNat by simp, show BitVec.ofInt 8 ((y.toNat : Nat) : Int) = BitVec.ofNat 8 y.toNat by simp]
  have : ((BitVec.ofNat 8 x.toNat ||| BitVec.ofNat 8 y.toNat).toNat) = (x ||| y).toNat := by
    rw [BitVec.toNat_or, BitVec.toNat_ofNat, BitVec.toNat_ofNat, UInt8.toNat_or, Nat.mod_eq_of_lt hx, Nat.mod_eq_of_lt hy]
  have h2 := (x ||| y).toNat_lt
  show IntKind.u8.wrap (((BitVec.ofNat 8 x.toNat ||| BitVec.ofNat 8 y.toNat).toNat : Nat) : Int) = _
  rw [this, wrap8]
  omega
/-- eight bytes, or'd up to a place -/
def orI (a b : List UInt8) (i : Nat) : List UInt8 := (List.range 8).map fun j => if j < i then a.getD j 0 ||| b.getD j 0 else a.getD j 0
def orL (a b : List UInt8) : List UInt8 := (List.range 8).map fun j => a.getD j 0 ||| b.getD j 0
theorem orI_len (a b : List UInt8) (i : Nat) : (orI a b i).length = 8 := by simp [orI]
theorem orL_len (a b : List UInt8) : (orL a b).length = 8 := by simp [orL]
theorem orI_get (a b : List UInt8) (i : Nat) {j : Nat} (hj : j < 8) : (orI a b i)[j]? = some (if j < i then a.getD j 0 ||| b.getD j 0 else a.getD j 0) := by simp [orI, hj]
theorem orL_get (a b : List UInt8) {j : Nat} (hj : j < 8) : (orL a b).getD j 0 = a.getD j 0 ||| b.getD j 0 := by simp [orL, List.getD, hj]
theorem orI_zero {a : List UInt8} (h : a.length = 8) (b : List UInt8) : orI a b 0 = a := by
  apply List.ext_getElem?
  intro j
  by_cases hj : j < 8
  · rw [orI_get a b 0 hj, if_neg (by omega)]
    simp [List.getD, show j < a.length by omega]
  · rw [List.getElem?_eq_none (by rw [orI_len]; omega), List.getElem?_eq_none (by omega)]
theorem orI_all (a b : List UInt8) : orI a b 8 = orL a b := by
  unfold orI orL
  apply List.map_congr_left
  intro j hj
  rw [if_pos (by simpa using hj)]
theorem orI_next (a b : List UInt8) {i : Nat} (hi : i < 8) : (orI a b i).set i (a.getD i 0 ||| b.getD i 0) = orI a b (i + 1) := by
  apply List.ext_getElem?
  intro j
  by_cases hj : j < 8
  · rw [orI_get a b (i + 1) hj, List.getElem?_set, orI_get a b i hj, orI_len]
    by_cases e : i = j
    · subst e; rw [if_pos rfl, if_pos hi, if_pos (by omega)]
    · rw [if_neg e]
      by_cases h : j < i
      · rw [if_pos h, if_pos (by omega)]
      · rw [if_neg h, if_neg (by omega)]
  · rw [List.getElem?_eq_none (by rw [List.length_set, orI_len]; omega), List.getElem?_eq_none (by rw [orI_len]; omega)]
theorem bvals_cells (l : List UInt8) {j : Nat} {x : UInt8} (h : l[j]? = some x) : (bvals l).toArray[j]? = some (.int .u8 (x.toNat : Int)) := by simp [bvals, h]
theorem bvals_setA (l : List UInt8) (j : Nat) (x : UInt8) : (bvals l).toArray.setIfInBounds j (.int .u8 (x.toNat : Int)) = (bvals (l.set j x)).toArray := by simp [bvals, List.map_set]
/-- what is joined so far -/
def jnA (n : Nat) (s : List UInt8 × Bool) (a : AD) : List UInt8 × Bool := if (loadPg a).2 ≠ 0 ∨ (loadPg a).1.ev < n then s else (orL s.1 (loadPg a).1.bits, true)
def jnPg (n : Nat) (s : List UInt8 × Bool) : Od → List UInt8 × Bool
  | none => s
  | some (q, a) => jnA n s a
def jnPgs (n : Nat) (l : List Od) (k : Nat) : List UInt8 × Bool := (l.take k).foldl (jnPg n) (List.replicate 8 0, false)
theorem jnPgs_next (n : Nat) {l : List Od} {k : Nat} {x : Od} (h : l[k]? = some x) : jnPgs n l (k + 1) = jnPg n (jnPgs n l k) x := by
  unfold jnPgs
  rw [List.take_add_one, h, List.foldl_append]; rfl
theorem jnPg_len (n : Nat) {s : List UInt8 × Bool} (h : s.1.length = 8) (x : Od) : (jnPg n s x).1.length = 8 := by
  cases x with
  | none => exact h
  | some y =>
    show (jnA n s y.2).1.length = 8
    unfold jnA
    split
    · exact h
    · exact orL_len _ _
theorem jnPgs_len (n : Nat) (l : List Od) : ∀ k, (jnPgs n l k).1.length = 8 := by
  have : ∀ (m : List Od) (s : List UInt8 × Bool), s.1.length = 8 → (m.foldl (jnPg n) s).1.length = 8 := by
    intro m
    induction m with
    | nil => intro s h; exact h
    | cons x m ih => intro s h; exact ih _ (jnPg_len n h x)
  exact fun k => this _ _ (by simp)
theorem loadPg_bits {a : AD} (h : (loadPg a).2 = 0) : (loadPg a).1.bits.length = 8 := by
  unfold loadPg at h ⊢
  split at h
  · rename_i h1; exact absurd h h1
  · rename_i h1
    rw [if_neg h1]; exact decPg_bits h
theorem loadPg_ev (a : AD) : (loadPg a).1.ev < 2 ^ 64 := by
  unfold loadPg
  split
  · show 0 < _; decide
  · exact decPg_ev _
theorem joined_none {l : List Od} {k : Nat} (h : (blks l)[k]? = some none) : l[k]? = some none := by
  unfold blks at h
  rw [List.getElem?_map] at h
  cases hx : l[k]? with
  | none => rw [hx] at h; cases h
  | some x =>
    rw [hx] at h
    cases x with
    | none => rfl
    | some y => cases h
theorem joined_some {l : List Od} {k b : Nat} (h : (blks l)[k]? = some (some b)) : ∃ a, l[k]? = some (some (b, a)) := by
  unfold blks at h
  rw [List.getElem?_map] at h
  cases hx : l[k]? with
  | none => rw [hx] at h; cases h
  | some x =>
    rw [hx] at h
    cases x with
    | none => cases h
    | some y =>
      have : y.1 = b := by simpa [odB] using h
      exact ⟨y.2, by rw [← this]⟩
section
variable {F : List Nat} {w0 : World}
theorem pjoin_spec {l : List Od} {g : Option Nat} {cap c n : Nat} (hl : l.length ≤ 1000000) (hF : FewL l 1000000) {w : World} {X : List A} (H : Ow (dsK l) F w0 w X) (hm : rowP 39 1 g l.length cap (ptrsV (blks l)) ∈ X) :
    Calls Tryd.prog 14 #[.slice (ptr g) l.length c, .int .u64 (n : Int)] w fun e w' => e = .returned (.tuple #[.string (strB (jnPgs n l l.length).1), .bool (jnPgs n l l.length).2]) ∧ Ow (dsK l) F w0 w' X := by
  refine (pages_Join_calls (R := fun v w' => v = .tuple #[.string (strB (jnPgs n l l.length).1), .bool (jnPgs n l l.length).2] ∧ Ow (dsK l) F w0 w' X) ?_).mono fun e w' ⟨v, he, hv, h⟩ => ⟨by rw [he, hv], h⟩
  unfold pages_Join
  refine H.alloc fun k3 w1 h1 => h1.alloc fun k6 w2 h2 => h2.alloc fun k7 w3 h3 => h3.st (c := #[.bool false]) (c' := #[.bool false]) .head (show 0 < 1 by decide) rfl rfl fun w4 h4 => ?_
  refine (drives_spec h4).mono fun e w5 ⟨k1, he5, h5⟩ => ⟨_, he5, ?_⟩
  have hbl := blks_len l
  refine RangeO.t (by kernel_rfl) (ok := fun k => ∃ b, (blks l)[k]? = some (some b)) (h := fun k => dsK l) (X := fun k => blk k1 #[.slice (ptr g) l.length c] 38 :: blk k7 #[.bool (jnPgs n l k).2] 4 :: blk k6 (bvals (jnPgs n l k).1).toArray 67 :: blk k3 #[.int .u64 (n : Int)] 22 :: X) (N := l.length) (arg := fun k => [pv ((blks l).getD k none)]) h5 ?_ ?_ ?_
  · intro yv x y hyes W hW
    have := drives1_spec (F := F) (w0 := w0) (ps := blks l) (g := g) (cap := cap) (c := c) (k1 := k1) (h := fun k => dsK l) (X := fun k => blk k1 #[.slice (ptr g) l.length c] 38 :: blk k7 #[.bool (jnPgs n l k).2] 4 :: blk k6 (bvals (jnPgs n l k).1).toArray 67 :: blk k3 #[.int .u64 (n : Int)] 22 :: X) (x := x) (y := y) (yv := yv) (by omega)
      (fun k => by rw [hbl]; exact List.mem_cons_self) (fun k => by rw [hbl]; exact List.mem_cons_of_mem _ (List.mem_cons_of_mem _ (List.mem_cons_of_mem _ (List.mem_cons_of_mem _ hm)))) (fun k W hn h => ?_) (fun k W hk h => hyes k W hk h) W hW
    · rw [hbl] at this; exact this
    · have hc : jnPgs n l (k + 1) = jnPgs n l k := jnPgs_next n (joined_none hn)
      rw [hc]; exact h
  · rintro obf ll d k W Φ ⟨b, hk⟩ hW hΦ
    obtain ⟨a, hla⟩ := joined_some hk
    have hgd : (blks l).getD k none = some b := by rw [List.getD_eq_getElem?_getD, hk]; rfl
    rw [hgd]
    refine ⟨_, rfl, RoundO.t hW (h' := dsK l) (X' := ob d (.deferred (some [])) :: blk k1 #[.slice (ptr g) l.length c] 38 :: blk k7 #[.bool (jnPgs n l (k + 1)).2] 4 :: blk k6 (bvals (jnPgs n l (k + 1)).1).toArray 67 :: blk k3 #[.int .u64 (n : Int)] 22 :: X) hΦ ?_⟩
    intro K B R w6 h6 hK
    have hFa : a.Few 1000000 := hF b a (List.mem_of_getElem? hla)
    have hnx := jnPgs_next n hla
    have hb8 := jnPgs_len n l k
    generalize jnPgs n l (k + 1) = s' at hnx hK
    generalize jnPgs n l k = s at hnx h6 hb8
    obtain ⟨Z, hZ, _⟩ := Ow.drive (k := k) h6 hla
    refine (pload_spec hZ hFa (Nat.le_trans (hZ.read_size 2) (by decide))).mono fun e w7 ⟨he7, hx7⟩ => ⟨_, _, _, he7, ?_⟩
    refine (h6.quiet hx7).alloc fun k9 w8 h8 => h8.st (c := pgC pgZ) (c' := #[.int .u64 ((loadPg a).1.ev : Int), .string (ByteArray.mk #[])]) .head (show 0 < 2 by decide) rfl rfl fun w9 h9 => h9.st (c' := pgC (loadPg a).1) .head (show 1 < 2 by decide) rfl rfl fun w10 h10 => ?_
    refine ⟨bne_t fun hne => ?_, bne_f fun heq => ?_⟩
    · have : s' = s := by rw [hnx]; show jnA n s a = _; unfold jnA; rw [if_pos (.inl hne)]
      subst this
      exact hK w10 h10.dropX
    refine ⟨_, h10.ld (b := k9) (c := pgC (loadPg a).1) (by repeat (first | exact List.Mem.head _ | refine List.Mem.tail _ ?_)) rfl, _, h10.ld (b := k3) (by repeat (first | exact List.Mem.head _ | refine List.Mem.tail _ ?_)) rfl, dec_t fun hlt => ?_, dec_f fun hge => ?_⟩
    · have : s' = s := by rw [hnx]; show jnA n s a = _; unfold jnA; rw [if_pos (.inr (by omega))]
      subst this
      exact hK w10 h10.dropX
    have hs' : s' = (orL s.1 (loadPg a).1.bits, true) := by rw [hnx]; show jnA n s a = _; unfold jnA; rw [if_neg (by omega)]
    have hbits := loadPg_bits heq
    refine h10.st (c := #[.bool s.2]) (c' := #[.bool true]) (by repeat (first | exact Turn.head | apply Turn.tail)) (show 0 < 1 by decide) rfl rfl fun w11 h11 => ?_
    refine ⟨fun vs w' => ∃ i : Nat, vs = [.int .i64 (i : Int)] ∧ i ≤ 8 ∧ Ow (dsK l) F w0 w' (blk k9 (pgC (loadPg a).1) 24 :: ob ll (obf .busy none) :: ob d (.deferred (some [])) :: blk k1 #[.slice (ptr g) l.length c] 38 :: blk k7 #[.bool true] 4 :: blk k6 (bvals (orI s.1 (loadPg a).1.bits i)).toArray 67 :: blk k3 #[.int .u64 (n : Int)] 22 :: X), fun vs _ => match vs with | [.int _ i] => (8 - i).toNat | _ => 0, ⟨0, rfl, by omega, by rw [orI_zero hb8]; exact h11⟩, ?_⟩
    rintro vs w12 ⟨i, rfl, hi, h12⟩
    refine ⟨_, rfl, dec_t fun hlt => ?_, dec_f fun hge => ?_⟩
    · have hlt : i < 8 := by omega
      refine ⟨fun w' => Ow (dsK l) F w0 w' (blk k9 (pgC (loadPg a).1) 24 :: ob ll (obf .busy none) :: ob d (.deferred (some [])) :: blk k1 #[.slice (ptr g) l.length c] 38 :: blk k7 #[.bool true] 4 :: blk k6 (bvals (orI s.1 (loadPg a).1.bits i)).toArray 67 :: blk k3 #[.int .u64 (n : Int)] 22 :: X), h12.drew, by omega, by omega, ((s.1.getD i 0).toNat : Int), fun w' h' => ?_, strB (loadPg a).1.bits, fun w' h' => h'.ld (b := k9) (c := pgC (loadPg a).1) (i := 1) (by repeat (first | exact List.Mem.head _ | refine List.Mem.tail _ ?_)) rfl, (((loadPg a).1.bits.getD i 0).toNat : Int), fun w' _ => ?_, by omega, by omega, ?_⟩
      · rw [addr_add, Nat.zero_add, Nat.mul_one, Int.toNat_natCast]
        refine h'.ld (b := k6) (by repeat (first | exact List.Mem.head _ | refine List.Mem.tail _ ?_)) (bvals_cells _ ?_)
        rw [orI_get _ _ _ hlt, if_neg (by omega)]
      · have := index_str (P := Tryd.prog) (t := 9) (k := .i64) (n := (i : Int)) (s := strB (loadPg a).1.bits) (w := w') (by kernel_rfl) (by omega) (by rw [strB_size]; omega)
        rw [Int.toNat_natCast] at this
        exact this
      · rw [u8_or, addr_add, Nat.zero_add, Nat.mul_one, Int.toNat_natCast]
        refine h12.drew.st (c' := (bvals (orI s.1 (loadPg a).1.bits (i + 1))).toArray) (by repeat (first | exact Turn.head | apply Turn.tail)) (by simp [bvals_len, orI_len]; omega) (by rw [bvals_setA, orI_next _ _ hlt]) rfl fun w13 h13 => ⟨⟨i + 1, ?_, by omega, h13⟩, ?_⟩
        · rw [wrap64 _ (by omega) (by omega)]; rfl
        · show ((8 : Int) - IntKind.i64.wrap ((i : Int) + 1)).toNat < ((8 : Int) - (i : Int)).toNat
          rw [wrap64 _ (by omega) (by omega)]; omega
    · obtain rfl : i = 8 := by omega
      rw [orI_all] at h12
      refine hK w12 ?_
      rw [hs']
      exact h12.dropX
  · intro d w9 h9
    have h8 := jnPgs_len n l l.length
    generalize jnPgs n l l.length = s at h9 h8
    refine ⟨fun w' => Ow (dsK l) F w0 w' (ob d (.deferred (some [])) :: blk k1 #[.slice (ptr g) l.length c] 38 :: blk k7 #[.bool s.2] 4 :: blk k6 (bvals s.1).toArray 67 :: blk k3 #[.int .u64 (n : Int)] 22 :: X), h9.drew, some ⟨k6, 0, none⟩, 8, 8, fun w' _ => by kernel_rfl, strB s.1, fun w' h' => ?_, s.2, fun w' h' => h'.ld (b := k7) (by repeat (first | exact List.Mem.head _ | refine List.Mem.tail _ ?_)) rfl, h9.drew.got List.mem_cons_self, rfl, h9.drew.putTop.dropX.dropX.dropX.dropX.dropX⟩
    have h1 := run_convert_bytes_back (P := Tryd.prog) w' 71 9 5 ⟨k6, 0, none⟩ 8 s.1 (by kernel_rfl) (by kernel_rfl) (by kernel_rfl) (fun j hj => by
      rw [addr_add, Nat.zero_add]
      refine h'.ld (b := k6) (by repeat (first | exact List.Mem.head _ | refine List.Mem.tail _ ?_)) (bvals_cells _ ?_)
      rw [List.getElem?_eq_getElem hj])
    rw [h8] at h1
    exact h1
end
end Go.Proofs.YtmipjkalfodcpaaDoor
end
section
/-! law11: bits, shown; PagesAll. -/
namespace Go.Proofs.YtmipjkalfodcpaaDoor
open Go.Sh Go.RowKit
set_option linter.unusedVariables false
set_option linter.unusedSimpArgs false
set_option maxRecDepth 20000
set_option maxHeartbeats 1000000
def bitsF (l : List UInt8) : List UInt8 := (l ++ List.replicate 8 0).take 8
theorem bitsF_len (l : List UInt8) : (bitsF l).length = 8 := by simp [bitsF]
theorem bits_spec (l : List UInt8) (hl : l.length ≤ 1000000) (w : World) : Ret Tryd.prog 13 #[.string (strB l)] w (.string (strB (bitsF l))) := by
  refine ret_of (revetmentlaw11_bits_calls ?_)
  unfold revetmentlaw11_bits
  have e8 : (ByteArray.mk #[0, 0, 0, 0, 0, 0, 0, 0]) = strB (List.replicate 8 0) := rfl
  rw [e8, strB_size, strB_size, strB_append]
  have hsl := slice_to (P := Tryd.prog) (t := 9) (k := .i64) (s := strB (l ++ List.replicate 8 0)) (hi := 8) (w := w) (by kernel_rfl) (by omega) (by rw [strB_size]; simp; omega)
  rw [strB_extract, List.drop_zero] at hsl
  refine ⟨by rw [List.length_replicate]; omega, _, w, hsl, rfl, Ext.refl w⟩
theorem savePg_on {a : AD} {n : Nat} (h : a.On n) (hn : 3 ≤ n) {p : PgV} (hb : p.bits.length = 8) : savePg a p = ((a.write 2 (strB (encPg p))).flush, 0) := by
  have hsz : (strB (encPg p)).size = 64 := by rw [strB_size, encPg_len hb]
  have hp := h.put (i := 2) (by omega) hsz
  unfold savePg
  rw [if_neg (by omega), if_neg (by omega), (h.write 2 _).flush1]
theorem savePg_load {a : AD} {n : Nat} (h : a.On n) (hn : 3 ≤ n) {p : PgV} (hb : p.bits.length = 8) (he : p.ev < 2 ^ 64) : loadPg (savePg a p).1 = (p, 0) := by
  have hsz : (strB (encPg p)).size = 64 := by rw [strB_size, encPg_len hb]
  have hp := h.put (i := 2) (by omega) hsz
  have how := h.write 2 (strB (encPg p))
  rw [savePg_on h hn hb]
  show loadPg (a.write 2 (strB (encPg p))).flush = _
  have hfs := AD.flush_safe how.flush1 (j := 2) (by rw [how.len]; omega)
  have hsp : (a.write 2 (strB (encPg p))).spoilt 2 = false := by rw [AD.write_of hp]; rfl
  have hr : (a.write 2 (strB (encPg p))).flush.read 2 = (strB (encPg p), 0) := by
    rw [read_on how.flush (i := 2) (by omega)]
    show (if (a.write 2 (strB (encPg p))).flush.spoilt 2 = true then _ else _) = _
    rw [hfs.2.2, hsp, if_neg (by decide)]
    show ((a.write 2 (strB (encPg p))).flush.top 2, (0 : Int)) = _
    rw [AD.top_none hfs.2.1, hfs.1, AD.write_top hp]
    rfl
  unfold loadPg
  rw [hr, if_neg (fun h => h rfl)]
  show decPg (encPg p) = _
  exact decPg_enc hb he
theorem savePg_isOn {a : AD} {n : Nat} (h : a.On n) (hn : 3 ≤ n) {p : PgV} (hb : p.bits.length = 8) : (savePg a p).1.On n := by
  rw [savePg_on h hn hb]; exact (h.write 2 _).flush
theorem few_savePg {a : AD} {N : Nat} (h : a.Few N) (p : PgV) : (savePg a p).1.Few (N + 1) := by
  unfold savePg
  split
  · exact h.mono (by omega)
  · split
    · exact h.mono (by omega)
    · exact (h.write _ _).flush
theorem pshown_spec (w : World) : Ret Tryd.prog 6 #[] w (.bool true) := by
  refine ret_of (revetmentlaw11_shown_calls ?_)
  unfold revetmentlaw11_shown
  have e1 : (ByteArray.mk #[97]) = strB [97] := rfl
  rw [e1]
  have h4 := AD.On.new 4
  have hb := bitsF_len [97]
  refine new_u (n := 4) (T.nil w) (by omega) fun p w1 h1 => ⟨_, rfl, no rfl ?_⟩
  refine (bits_spec [97] (by simp) w1).mono fun e w2 ⟨he, hx2⟩ => ⟨_, he, ?_⟩
  have h2 := h1.quiet hx2
  refine (psave_d h2 (few_new _ _) (p := ⟨5, bitsF [97]⟩) (show 5 < 2 ^ 64 by decide) (by rw [hb]; decide)).mono fun e w3 ⟨he, h3⟩ => ⟨_, he, ?_⟩
  rw [savePg_on h4 (by omega) hb]
  have hl := savePg_load h4 (by omega) (p := ⟨5, bitsF [97]⟩) hb (show 5 < 2 ^ 64 by decide)
  have hF := few_savePg (few_new 4 0) ⟨5, bitsF [97]⟩
  refine no rfl ?_
  refine (pload_spec h3 (hF.mono (by decide)) (Nat.le_trans (h3.read_size 2) (by decide))).mono fun e w4 ⟨he, hx4⟩ => ⟨_, _, _, he, ?_⟩
  rw [hl]
  refine Alloc.t (T.nil w4) fun k2 w5 h5 => St.t (c := pgC pgZ) (c' := #[.int .u64 ((5 : Nat) : Int), .string (ByteArray.mk #[])]) h5 .head (show 0 < 2 by decide) rfl rfl fun w6 h6 => St.t (c' := pgC ⟨5, bitsF [97]⟩) h6 .head (show 1 < 2 by decide) rfl rfl fun w7 h7 => ?_
  refine ⟨fun w' => T [] w4 w' [blk k2 (pgC ⟨5, bitsF [97]⟩) 24], h7.drew, yes rfl ⟨_, fun w' h' => h'.ld (b := k2) (c := pgC ⟨5, bitsF [97]⟩) (by repeat (first | exact List.Mem.head _ | refine List.Mem.tail _ ?_)) rfl, yes rfl ⟨_, fun w' h' => h'.ld (b := k2) (c := pgC ⟨5, bitsF [97]⟩) (i := 1) (by repeat (first | exact List.Mem.head _ | refine List.Mem.tail _ ?_)) rfl, ?_⟩⟩⟩
  refine (bits_spec [97] (by simp) _).mono fun e w8 ⟨he, hx8⟩ => ⟨_, he, h7.drew.quiet hx8, ?_, ?_⟩
  · rw [strB_toList]; simp
  · exact ((h3.ext.trans hx4).trans h7.drew.chg.ext).trans hx8
theorem pshown_end {w w1 : World} (hx : Ext w w1) : Calls Tryd.prog 6 #[] w1 fun e w2 => ∃ b : Bool, e = .returned (.bool b) ∧ RetR w (.bool true) (.bool b) w2 :=
  (pshown_spec w1).mono fun e w2 ⟨he, hx2⟩ => ⟨true, he, rfl, hx.trans hx2⟩
end Go.Proofs.YtmipjkalfodcpaaDoor
end
section
/-! super: superblocks as values; when two are the same. -/
namespace Go.Proofs.YtmipjkalfodcpaaDoor
open Go.Sh Go.RowKit
set_option linter.unusedVariables false
set_option maxRecDepth 20000
set_option maxHeartbeats 1000000
structure SupV where
  uuid : Int
  events : Int
  role : Int
  cols : Int
  chunk : Int
  rows : Int
  clean : Bool
  built : Int
  new : Int
  grown : Int
deriving DecidableEq
def supC (a : SupV) : Array Value := #[.int .u64 a.uuid, .int .u64 a.events, .int .i64 a.role, .int .i64 a.cols, .int .i64 a.chunk, .int .i64 a.rows, .bool a.clean, .int .i64 a.built, .int .i64 a.new, .int .i64 a.grown]
abbrev sup0 : SupV := ⟨0, 0, 0, 0, 0, 0, false, 0, 0, 0⟩
theorem pt0 (a : SupV) (w : World) : (part 22 (supC a) 0).run Tryd.prog w = .ok (.int .u64 a.uuid) w := by kernel_rfl
theorem pt1 (a : SupV) (w : World) : (part 22 (supC a) 1).run Tryd.prog w = .ok (.int .u64 a.events) w := by kernel_rfl
theorem pt2 (a : SupV) (w : World) : (part 3 (supC a) 2).run Tryd.prog w = .ok (.int .i64 a.role) w := by kernel_rfl
theorem pt6 (a : SupV) (w : World) : (part 4 (supC a) 6).run Tryd.prog w = .ok (.bool a.clean) w := by kernel_rfl
theorem pt7 (a : SupV) (w : World) : (part 3 (supC a) 7).run Tryd.prog w = .ok (.int .i64 a.built) w := by kernel_rfl
theorem pt8 (a : SupV) (w : World) : (part 3 (supC a) 8).run Tryd.prog w = .ok (.int .i64 a.new) w := by kernel_rfl
theorem pt9 (a : SupV) (w : World) : (part 3 (supC a) 9).run Tryd.prog w = .ok (.int .i64 a.grown) w := by kernel_rfl
theorem pg0 (a b c : Int) (w : World) : (part 3 #[.int .i64 a, .int .i64 b, .int .i64 c] 0).run Tryd.prog w = .ok (.int .i64 a) w := by kernel_rfl
theorem pg1 (a b c : Int) (w : World) : (part 3 #[.int .i64 a, .int .i64 b, .int .i64 c] 1).run Tryd.prog w = .ok (.int .i64 b) w := by kernel_rfl
theorem pg2 (a b c : Int) (w : World) : (part 3 #[.int .i64 a, .int .i64 b, .int .i64 c] 2).run Tryd.prog w = .ok (.int .i64 c) w := by kernel_rfl
theorem eq_u64 (d : Nat) (w : World) (a b : Int) : (Op.equalIn (d + 1) 22 (.int .u64 a) (.int .u64 b)).run Tryd.prog w = .ok (a == b) w := run_equalIn_int w d 22 .u64 .u64 a b (by kernel_rfl)
theorem eq_int (d : Nat) (w : World) (a b : Int) : (Op.equalIn (d + 1) 3 (.int .i64 a) (.int .i64 b)).run Tryd.prog w = .ok (a == b) w := run_equalIn_int w d 3 .i64 .i64 a b (by kernel_rfl)
theorem eq_bool (d : Nat) (w : World) (a b : Bool) : (Op.equalIn (d + 1) 4 (.bool a) (.bool b)).run Tryd.prog w = .ok (a == b) w := run_equalIn_bool' w d 4 a b (by kernel_rfl)
theorem eqStep {P : Program} {w : World} {d : Nat} {xs ys : Array Value} {fs : List Field} {a b : Value} {r : Bool} (nm : String) (ty : TypeId) (o : Nat) (e : Bool) (s1 s2 : String) (by_ : Nat) (hf : nm ≠ "_") (ha : (part ty xs o).run P w = .ok a w) (hb : (part ty ys o).run P w = .ok b w) (he : (Op.equalIn d ty a b).run P w = .ok r w)
    {q : Bool} (hr : (Op.eqFields d xs ys fs).run P w = .ok q w) : (Op.eqFields d xs ys (Field.mk nm ty o e s1 s2 by_ :: fs)).run P w = .ok (r && q) w := by
  simp only [Op.eqFields, if_pos hf, Sem.run_bind, ha, hb, he, Result.andThen_ok]
  cases r
  · simp
  · simp [hr]
theorem eqNil {P : Program} {w : World} {d : Nat} {xs ys : Array Value} : (Op.eqFields d xs ys []).run P w = .ok true w := by simp [Op.eqFields]
end Go.Proofs.YtmipjkalfodcpaaDoor
end
section
/-! layout.Check (out of the layout's text). -/
namespace Go.Proofs.YtmipjkalfodcpaaDoor
open Go.Sh
set_option linter.unusedVariables false
/-- a geometry that may be -/
def OkG (c k r : Int) : Prop := 4 ≤ c ∧ c ≤ 10 ∧ 1 ≤ k ∧ k ≤ 4 ∧ 1 ≤ r ∧ r ≤ 256
instance (c k r : Int) : Decidable (OkG c k r) := by unfold OkG; infer_instance
def CheckI (c k r : Int) (w : World) (vs : List Value) (w' : World) : Prop := ∃ i : Nat, vs = [.int .i64 i] ∧ i ≤ 3 ∧ Ext w w' ∧ (1 ≤ i → 4 ≤ c ∧ c ≤ 10) ∧ (2 ≤ i → 1 ≤ k ∧ k ≤ 4) ∧ (3 ≤ i → 1 ≤ r ∧ r ≤ 256)
def CheckM (vs : List Value) (_ : World) : Nat := match vs with | [.int _ i] => 3 - i.toNat | _ => 0
theorem checkI_next {c k r : Int} {w w' : World} (i : Nat) (hx : Ext w w') (hi : i < 3) (h1 : 4 ≤ c ∧ c ≤ 10) (h2 : 1 ≤ i → 1 ≤ k ∧ k ≤ 4) (h3 : 2 ≤ i → 1 ≤ r ∧ r ≤ 256) :
    CheckI c k r w [.int .i64 (IntKind.i64.wrap ((i : Int) + 1))] w' :=
  ⟨i + 1, by rw [wrap64 _ (by omega) (by omega)]; rfl, by omega, hx, fun _ => h1, fun h => h2 (by omega), fun h => h3 (by omega)⟩
theorem checkM_next (i : Nat) (w w' : World) (hi : i < 3) : CheckM [.int .i64 (IntKind.i64.wrap ((i : Int) + 1))] w' < CheckM [.int .i64 i] w := by
  rw [wrap64 _ (by omega) (by omega)]; simp only [CheckM]; omega
end Go.Proofs.YtmipjkalfodcpaaDoor
end
section
/-! super: May, parts, widths. -/
namespace Go.Proofs.YtmipjkalfodcpaaDoor
open Go.Sh Go.RowKit
set_option linter.unusedVariables false
set_option maxRecDepth 20000
set_option maxHeartbeats 1000000
/-- a superblock that may be, of a column of an array that does not grow -/
structure MayS (a : SupV) : Prop where
  uuid : 1 ≤ a.uuid ∧ a.uuid < 18446744073709551616
  events : 0 ≤ a.events ∧ a.events < 18446744073709551616
  role : 0 ≤ a.role ∧ a.role < a.cols
  cols : 4 ≤ a.cols ∧ a.cols ≤ 10
  chunk : 1 ≤ a.chunk ∧ a.chunk ≤ 4
  rows : 1 ≤ a.rows ∧ a.rows ≤ 256
  built : 0 ≤ a.built ∧ a.built ≤ a.rows
  new : a.new = 0
  grown : a.grown = 0
theorem rd10 {F : List Nat} {w0 w : World} {Γ : List A} {k : Nat} {t : TypeId} {a : SupV} (h : T F w0 w Γ) (hm : blk k (supC a) t ∈ Γ) {Q : Int → Int → Int → Int → Int → Int → Bool → Int → Int → Int → Prop} (hQ : Q a.uuid a.events a.role a.cols a.chunk a.rows a.clean a.built a.new a.grown) :
    ∃ n0 : Int, ∃ n1 : Int, ∃ n2 : Int, ∃ n3 : Int, ∃ n4 : Int, ∃ n5 : Int, ∃ b6 : Bool, ∃ n7 : Int, ∃ n8 : Int, ∃ n9 : Int, (w.cell? ⟨k, 0, none⟩ = some (.int .u64 n0) ∧ w.cell? ⟨k, 1, none⟩ = some (.int .u64 n1) ∧ w.cell? ⟨k, 2, none⟩ = some (.int .i64 n2) ∧ w.cell? ⟨k, 3, none⟩ = some (.int .i64 n3) ∧ w.cell? ⟨k, 4, none⟩ = some (.int .i64 n4) ∧ w.cell? ⟨k, 5, none⟩ = some (.int .i64 n5) ∧ w.cell? ⟨k, 6, none⟩ = some (.bool b6) ∧ w.cell? ⟨k, 7, none⟩ = some (.int .i64 n7) ∧ w.cell? ⟨k, 8, none⟩ = some (.int .i64 n8) ∧ w.cell? ⟨k, 9, none⟩ = some (.int .i64 n9)) ∧ Q n0 n1 n2 n3 n4 n5 b6 n7 n8 n9 :=
  ⟨_, _, _, _, _, _, _, _, _, _, ⟨h.ld hm rfl, h.ld hm rfl, h.ld hm rfl, h.ld hm rfl, h.ld hm rfl, h.ld hm rfl, h.ld hm rfl, h.ld hm rfl, h.ld hm rfl, h.ld hm rfl⟩, hQ⟩
/-- ten stores, one behind the other -/
theorem st10 {F : List Nat} {w0 w : World} {Γ : List A} {k : Nat} {t : TypeId} {a b : SupV} (hT : T F w0 w (blk k (supC a) t :: Γ)) {K : World → Prop} (hK : ∀ w', T F w0 w' (blk k (supC b) t :: Γ) → K w') :
    St ⟨k, 0, none⟩ (.int .u64 b.uuid) w fun w1 => St ⟨k, 1, none⟩ (.int .u64 b.events) w1 fun w2 => St ⟨k, 2, none⟩ (.int .i64 b.role) w2 fun w3 => St ⟨k, 3, none⟩ (.int .i64 b.cols) w3 fun w4 => St ⟨k, 4, none⟩ (.int .i64 b.chunk) w4 fun w5 => St ⟨k, 5, none⟩ (.int .i64 b.rows) w5 fun w6 =>
      St ⟨k, 6, none⟩ (.bool b.clean) w6 fun w7 => St ⟨k, 7, none⟩ (.int .i64 b.built) w7 fun w8 => St ⟨k, 8, none⟩ (.int .i64 b.new) w8 fun w9 => St ⟨k, 9, none⟩ (.int .i64 b.grown) w9 K := by
  have h0 : T F w0 w (blk k #[.int .u64 a.uuid, .int .u64 a.events, .int .i64 a.role, .int .i64 a.cols, .int .i64 a.chunk, .int .i64 a.rows, .bool a.clean, .int .i64 a.built, .int .i64 a.new, .int .i64 a.grown] t :: Γ) := hT
  refine St.t (c' := #[.int .u64 b.uuid, .int .u64 a.events, .int .i64 a.role, .int .i64 a.cols, .int .i64 a.chunk, .int .i64 a.rows, .bool a.clean, .int .i64 a.built, .int .i64 a.new, .int .i64 a.grown]) h0 .head (show 0 < 10 by decide) rfl rfl fun w1 h1 => ?_
  refine St.t (c' := #[.int .u64 b.uuid, .int .u64 b.events, .int .i64 a.role, .int .i64 a.cols, .int .i64 a.chunk, .int .i64 a.rows, .bool a.clean, .int .i64 a.built, .int .i64 a.new, .int .i64 a.grown]) h1 .head (show 1 < 10 by decide) rfl rfl fun w2 h2 => ?_
  refine St.t (c' := #[.int .u64 b.uuid, .int .u64 b.events, .int .i64 b.role, .int .i64 a.cols, .int .i64 a.chunk, .int .i64 a.rows, .bool a.clean, .int .i64 a.built, .int .i64 a.new, .int .i64 a.grown]) h2 .head (show 2 < 10 by decide) rfl rfl fun w3 h3 => ?_
  refine St.t (c' := #[.int .u64 b.uuid, .int .u64 b.events, .int .i64 b.role, .int .i64 b.cols, .int .i64 a.chunk, .int .i64 a.rows, .bool a.clean, .int .i64 a.built, .int .i64 a.new, .int .i64 a.grown]) h3 .head (show 3 < 10 by decide) rfl rfl fun w4 h4 => ?_
  refine St.t (c' := #[.int .u64 b.uuid, .int .u64 b.events, .int .i64 b.role, .int .i64 b.cols, .int .i64 b.chunk, .int .i64 a.rows, .bool a.clean, .int .i64 a.built, .int .i64 a.new, .int .i64 a.grown]) h4 .head (show 4 < 10 by decide) rfl rfl fun w5 h5 => ?_
  refine St.t (c' := #[.int .u64 b.uuid, .int .u64 b.events, .int .i64 b.role, .int .i64 b.cols, .int .i64 b.chunk, .int .i64 b.rows, .bool a.clean, .int .i64 a.built, .int .i64 a.new, .int .i64 a.grown]) h5 .head (show 5 < 10 by decide) rfl rfl fun w6 h6 => ?_
  refine St.t (c' := #[.int .u64 b.uuid, .int .u64 b.events, .int .i64 b.role, .int .i64 b.cols, .int .i64 b.chunk, .int .i64 b.rows, .bool b.clean, .int .i64 a.built, .int .i64 a.new, .int .i64 a.grown]) h6 .head (show 6 < 10 by decide) rfl rfl fun w7 h7 => ?_
  refine St.t (c' := #[.int .u64 b.uuid, .int .u64 b.events, .int .i64 b.role, .int .i64 b.cols, .int .i64 b.chunk, .int .i64 b.rows, .bool b.clean, .int .i64 b.built, .int .i64 a.new, .int .i64 a.grown]) h7 .head (show 7 < 10 by decide) rfl rfl fun w8 h8 => ?_
  refine St.t (c' := #[.int .u64 b.uuid, .int .u64 b.events, .int .i64 b.role, .int .i64 b.cols, .int .i64 b.chunk, .int .i64 b.rows, .bool b.clean, .int .i64 b.built, .int .i64 b.new, .int .i64 a.grown]) h8 .head (show 8 < 10 by decide) rfl rfl fun w9 h9 => ?_
  refine St.t (c' := #[.int .u64 b.uuid, .int .u64 b.events, .int .i64 b.role, .int .i64 b.cols, .int .i64 b.chunk, .int .i64 b.rows, .bool b.clean, .int .i64 b.built, .int .i64 b.new, .int .i64 b.grown]) h9 .head (show 9 < 10 by decide) rfl rfl fun w10 h10 => ?_
  exact hK w10 h10
def partC (k kc : Nat) (pc : Option Addr) : Array Value := #[.pointer (some ⟨k, 2, none⟩), .int .i64 1, .pointer (some ⟨k, 3, none⟩), .int .i64 1, .pointer (some ⟨k, 4, none⟩), .int .i64 1, .pointer (some ⟨k, 5, none⟩), .int .i64 2, .pointer pc, .int .i64 1, .pointer (some ⟨k, 7, none⟩), .int .i64 2, .pointer (some ⟨k, 8, none⟩), .int .i64 1, .pointer (some ⟨k, 9, none⟩), .int .i64 2]
def supW : List Nat := [4, 8, 8, 1, 1, 1, 2, 1, 2, 1, 2]
theorem supW_wid : Wid supW := ⟨by decide, by decide⟩
end Go.Proofs.YtmipjkalfodcpaaDoor
end
section
/-! super: May, of any superblock. -/
namespace Go.Proofs.YtmipjkalfodcpaaDoor
open Go.Sh Go.RowKit
set_option linter.unusedVariables false
set_option maxRecDepth 20000
set_option maxHeartbeats 1000000
def MayF (a : SupV) : Prop := a.uuid ≠ 0 ∧ OkG a.cols a.chunk a.rows ∧ ((a.new = 0 ∧ a.grown = 0) ∨ (a.new ≠ 0 ∧ a.cols + 1 ≤ a.new ∧ a.new ≤ 10)) ∧ (a.role = 254 ∨ a.role = 255 ∨ (0 ≤ a.role ∧ a.role ≤ (if a.new > a.cols then a.new else a.cols) - 1)) ∧ (0 ≤ a.built ∧ a.built ≤ a.rows) ∧ (0 ≤ a.grown ∧ a.grown ≤ a.rows)
instance (a : SupV) : Decidable (MayF a) := by unfold MayF; infer_instance
end Go.Proofs.YtmipjkalfodcpaaDoor
end
