import Derived.Test.YtdppllkjibfjcaaSu3
/-! super: Encode. -/
namespace Go.Proofs.Ytdppllkjibfjcaa
open Go.Sh Go.RowKit
set_option linter.unusedVariables false
set_option maxRecDepth 20000
set_option maxHeartbeats 1000000
def fieldsS (a : SupV) : List Nat := [827610706, a.uuid.toNat, a.events.toNat, a.role.toNat, a.cols.toNat, a.chunk.toNat, a.rows.toNat, if a.clean then 1 else 0, a.built.toNat, a.new.toNat, a.grown.toNat]
def packS (a : SupV) : List UInt8 := encP (fieldsS a) supW
def encS (a : SupV) : List UInt8 := sealB (packS a) 64
def fitsL : List Nat → List Nat → Prop
  | n :: ns, w :: ws => n < 256 ^ w ∧ fitsL ns ws
  | _, _ => True
theorem fitsL_get : ∀ {ns ws : List Nat}, fitsL ns ws → ∀ (i n x : Nat), ns[i]? = some n → ws[i]? = some x → n < 256 ^ x
  | [], _, _, i, _, _, h, _ => by simp at h
  | _ :: _, [], _, i, _, _, _, h => by simp at h
  | n :: ns, w :: ws, h, 0, _, _, hn, hx => by
    simp only [List.getElem?_cons_zero, Option.some.injEq] at hn hx
    subst hn; subst hx; exact h.1
  | n :: ns, w :: ws, h, i + 1, m, x, hn, hx => fitsL_get h.2 i m x (by simpa using hn) (by simpa using hx)
theorem fitsL_zip : ∀ {ns ws : List Nat}, fitsL ns ws → ∀ p ∈ ns.zip ws, p.1 < 256 ^ p.2
  | [], _, _, p, h => by simp at h
  | _ :: _, [], _, p, h => by simp at h
  | n :: ns, w :: ws, h, p, hp => by
    simp only [List.zip_cons_cons, List.mem_cons] at hp
    rcases hp with rfl | hp
    · exact h.1
    · exact fitsL_zip h.2 p hp
theorem fieldsS_fit {a : SupV} (h : MayS a) : fitsL (fieldsS a) supW := by
  obtain ⟨h1, h2, h3, h4, h5, h6, h7, h8, h9⟩ := h
  have e1 : (256 : Nat) ^ 1 = 256 := rfl
  have e2 : (256 : Nat) ^ 2 = 65536 := rfl
  have e4 : (256 : Nat) ^ 4 = 4294967296 := rfl
  have e8 : (256 : Nat) ^ 8 = 18446744073709551616 := rfl
  simp only [fitsL, fieldsS, supW, e1, e2, e4, e8]
  refine ⟨by omega, by omega, by omega, by omega, by omega, by omega, by omega, ?_, by omega, by omega, by omega, trivial⟩
  split <;> omega
theorem fieldsS_len (a : SupV) : (fieldsS a).length = supW.length := rfl
theorem packS_len (a : SupV) : (packS a).length = 31 := encP_len (fieldsS a) supW rfl
theorem encS_len (a : SupV) : (encS a).length = 64 := sealB_len (by rw [packS_len]; omega)
theorem encS_size (a : SupV) : (strB (encS a)).size = 64 := by rw [strB_size, encS_len]
theorem partV {a : SupV} (h : MayS a) {F : List Nat} {w0 w : World} {Γ : List A} {k1 k4 : Nat} {t1 t4 : TypeId} (hT : T F w0 w Γ) (m1 : blk k1 (supC a) t1 ∈ Γ) (m4 : blk k4 #[.int .i64 (if a.clean then 1 else 0)] t4 ∈ Γ) :
    ∀ (i : Nat), i < 8 → ∃ p, partP k1 (some ⟨k4, 0, none⟩) i = some p ∧ w.cell? p = some (.int .i64 (((fieldsS a).getD (3 + i) 0 : Nat) : Int)) := by
  obtain ⟨h1, h2, h3, h4, h5, h6, h7, h8, h9⟩ := h
  have cv : ∀ {x : Int}, 0 ≤ x → ((x.toNat : Nat) : Int) = x := fun h => by omega
  intro i hi
  match i, hi with
  | 0, _ => exact ⟨_, rfl, by show _ = some (Value.int .i64 ((a.role.toNat : Nat) : Int)); rw [cv (by omega)]; exact hT.ld m1 rfl⟩
  | 1, _ => exact ⟨_, rfl, by show _ = some (Value.int .i64 ((a.cols.toNat : Nat) : Int)); rw [cv (by omega)]; exact hT.ld m1 rfl⟩
  | 2, _ => exact ⟨_, rfl, by show _ = some (Value.int .i64 ((a.chunk.toNat : Nat) : Int)); rw [cv (by omega)]; exact hT.ld m1 rfl⟩
  | 3, _ => exact ⟨_, rfl, by show _ = some (Value.int .i64 ((a.rows.toNat : Nat) : Int)); rw [cv (by omega)]; exact hT.ld m1 rfl⟩
  | 4, _ => exact ⟨_, rfl, by
      have : (((if a.clean then 1 else 0 : Nat) : Nat) : Int) = if a.clean then 1 else 0 := by split <;> rfl
      show _ = some (Value.int .i64 (((if a.clean then 1 else 0 : Nat) : Nat) : Int))
      rw [this]; exact hT.ld m4 rfl⟩
  | 5, _ => exact ⟨_, rfl, by show _ = some (Value.int .i64 ((a.built.toNat : Nat) : Int)); rw [cv (by omega)]; exact hT.ld m1 rfl⟩
  | 6, _ => exact ⟨_, rfl, by show _ = some (Value.int .i64 ((a.new.toNat : Nat) : Int)); rw [cv (by omega)]; exact hT.ld m1 rfl⟩
  | 7, _ => exact ⟨_, rfl, by show _ = some (Value.int .i64 ((a.grown.toNat : Nat) : Int)); rw [cv (by omega)]; exact hT.ld m1 rfl⟩
theorem fieldsS_at (a : SupV) {i : Nat} (hi : i < 8) : (fieldsS a)[3 + i]? = some ((fieldsS a).getD (3 + i) 0) := by
  have : 3 + i < (fieldsS a).length := by show 3 + i < 11; omega
  simp [List.getD, this]
theorem fieldsS_small {a : SupV} (h : MayS a) (i : Nat) (hi : i < 8) : ((fieldsS a).getD (3 + i) 0) < 65536 := by
  obtain ⟨h1, h2, h3, h4, h5, h6, h7, h8, h9⟩ := h
  match i, hi with
  | 0, _ => show a.role.toNat < 65536; omega
  | 1, _ => show a.cols.toNat < 65536; omega
  | 2, _ => show a.chunk.toNat < 65536; omega
  | 3, _ => show a.rows.toNat < 65536; omega
  | 4, _ => show (if a.clean then 1 else 0) < 65536; split <;> omega
  | 5, _ => show a.built.toNat < 65536; omega
  | 6, _ => show a.new.toNat < 65536; omega
  | 7, _ => show a.grown.toNat < 65536; omega
theorem sencode_spec {a : SupV} (h : MayS a) (w : World) : Ret Try.prog 36 #[.agg (supC a)] w (.tuple #[.string (strB (encS a)), .int .i64 0]) := by
  refine ret_of (super_Encode_calls ?_)
  unfold super_Encode
  refine Alloc.t (T.nil w) fun k1 w1 h1 => ?_
  have h1 : T [] w w1 [blk k1 (supC a) 58] := h1
  refine rd10 h1 List.mem_cons_self ?_
  refine (smay_spec h w1).mono fun e w2 ⟨he, hx2⟩ => ⟨_, he, fun e => (by cases e), fun _ => ?_⟩
  have h2 := h1.quiet hx2
  refine Alloc.t h2 fun k4 w3 h3 => St.t (c' := #[.int .i64 0]) h3 .head (show 0 < 1 by decide) rfl rfl fun w4 h4 => Join.intro fun J hJ => ?_
  have main : ∀ w5, T [] w w5 [blk k4 #[.int .i64 (if a.clean then 1 else 0)] 3, blk k1 (supC a) 58] → J [] w5 := by
    intro w5 h5
    have hu : (((a.uuid.toNat : Nat) : Int)) = a.uuid := by have := h.uuid; omega
    have hv : (((a.events.toNat : Nat) : Int)) = a.events := by have := h.events; omega
    refine hJ _ _ ⟨rfl, a.uuid, h5.ld (by first | exact List.Mem.head _ | exact List.Mem.tail _ (List.Mem.head _) | exact List.Mem.tail _ (List.Mem.tail _ (List.Mem.head _)) | exact List.Mem.tail _ (List.Mem.tail _ (List.Mem.tail _ (List.Mem.head _))) | exact List.Mem.tail _ (List.Mem.tail _ (List.Mem.tail _ (List.Mem.tail _ (List.Mem.head _)))) | exact List.Mem.tail _ (List.Mem.tail _ (List.Mem.tail _ (List.Mem.tail _ (List.Mem.tail _ (List.Mem.head _))))) | exact List.Mem.tail _ (List.Mem.tail _ (List.Mem.tail _ (List.Mem.tail _ (List.Mem.tail _ (List.Mem.tail _ (List.Mem.head _)))))) | exact List.Mem.tail _ (List.Mem.tail _ (List.Mem.tail _ (List.Mem.tail _ (List.Mem.tail _ (List.Mem.tail _ (List.Mem.tail _ (List.Mem.head _))))))) | exact List.Mem.tail _ (List.Mem.tail _ (List.Mem.tail _ (List.Mem.tail _ (List.Mem.tail _ (List.Mem.tail _ (List.Mem.tail _ (List.Mem.tail _ (List.Mem.head _)))))))) | exact List.Mem.tail _ (List.Mem.tail _ (List.Mem.tail _ (List.Mem.tail _ (List.Mem.tail _ (List.Mem.tail _ (List.Mem.tail _ (List.Mem.tail _ (List.Mem.tail _ (List.Mem.head _))))))))) | exact List.Mem.tail _ (List.Mem.tail _ (List.Mem.tail _ (List.Mem.tail _ (List.Mem.tail _ (List.Mem.tail _ (List.Mem.tail _ (List.Mem.tail _ (List.Mem.tail _ (List.Mem.tail _ (List.Mem.head _)))))))))) | exact List.Mem.tail _ (List.Mem.tail _ (List.Mem.tail _ (List.Mem.tail _ (List.Mem.tail _ (List.Mem.tail _ (List.Mem.tail _ (List.Mem.tail _ (List.Mem.tail _ (List.Mem.tail _ (List.Mem.tail _ (List.Mem.head _)))))))))))) rfl, a.events, h5.ld (by first | exact List.Mem.head _ | exact List.Mem.tail _ (List.Mem.head _) | exact List.Mem.tail _ (List.Mem.tail _ (List.Mem.head _)) | exact List.Mem.tail _ (List.Mem.tail _ (List.Mem.tail _ (List.Mem.head _))) | exact List.Mem.tail _ (List.Mem.tail _ (List.Mem.tail _ (List.Mem.tail _ (List.Mem.head _)))) | exact List.Mem.tail _ (List.Mem.tail _ (List.Mem.tail _ (List.Mem.tail _ (List.Mem.tail _ (List.Mem.head _))))) | exact List.Mem.tail _ (List.Mem.tail _ (List.Mem.tail _ (List.Mem.tail _ (List.Mem.tail _ (List.Mem.tail _ (List.Mem.head _)))))) | exact List.Mem.tail _ (List.Mem.tail _ (List.Mem.tail _ (List.Mem.tail _ (List.Mem.tail _ (List.Mem.tail _ (List.Mem.tail _ (List.Mem.head _))))))) | exact List.Mem.tail _ (List.Mem.tail _ (List.Mem.tail _ (List.Mem.tail _ (List.Mem.tail _ (List.Mem.tail _ (List.Mem.tail _ (List.Mem.tail _ (List.Mem.head _)))))))) | exact List.Mem.tail _ (List.Mem.tail _ (List.Mem.tail _ (List.Mem.tail _ (List.Mem.tail _ (List.Mem.tail _ (List.Mem.tail _ (List.Mem.tail _ (List.Mem.tail _ (List.Mem.head _))))))))) | exact List.Mem.tail _ (List.Mem.tail _ (List.Mem.tail _ (List.Mem.tail _ (List.Mem.tail _ (List.Mem.tail _ (List.Mem.tail _ (List.Mem.tail _ (List.Mem.tail _ (List.Mem.tail _ (List.Mem.head _)))))))))) | exact List.Mem.tail _ (List.Mem.tail _ (List.Mem.tail _ (List.Mem.tail _ (List.Mem.tail _ (List.Mem.tail _ (List.Mem.tail _ (List.Mem.tail _ (List.Mem.tail _ (List.Mem.tail _ (List.Mem.tail _ (List.Mem.head _)))))))))))) rfl, Alloc.t h5 fun k21 w6 h6 => ?_⟩
    have h6 : T [] w w6 (rowP 53 1 (some k21) 3 3 (u64s ((fieldsS a).take 3)) :: [blk k4 #[.int .i64 (if a.clean then 1 else 0)] 3, blk k1 (supC a) 58]) := by
      refine blk_row h6 ?_ rfl (by decide)
      show [Value.int .u64 827610706, .int .u64 a.uuid, .int .u64 a.events] = [.int .u64 ((827610706 : Nat) : Int), .int .u64 ((a.uuid.toNat : Nat) : Int), .int .u64 ((a.events.toNat : Nat) : Int)]
      rw [hu, hv]; rfl
    refine (parts_spec k1 (some ⟨k4, 0, none⟩) h6).mono fun e w7 ⟨b, he, h7⟩ => ⟨_, _, _, he, ?_⟩
    refine ⟨fun vs w' => ∃ (i : Nat) (g : Option Nat) (cap : Nat), vs = [.slice (ptr g) (3 + i) cap, .int .i64 (i : Int)] ∧ i ≤ 8 ∧ T [] w w' (rowP 53 1 g (3 + i) cap (u64s ((fieldsS a).take (3 + i))) :: blk b (partC k1 0 (some ⟨k4, 0, none⟩)) 99 :: [blk k4 #[.int .i64 (if a.clean then 1 else 0)] 3, blk k1 (supC a) 58]), fun vs _ => match vs with | [_, .int _ i] => (8 - i).toNat | _ => 0, ⟨0, some k21, 3, rfl, by omega, h7.swap (Pick.perm (.tail .head))⟩, ?_⟩
    rintro vs w8 ⟨i, g, cap, rfl, hi, h8⟩
    refine ⟨_, _, _, _, rfl, dec_t fun hlt => ?_, dec_f fun hge => ?_⟩
    · have hlt : i < 8 := by omega
      obtain ⟨p1, p2⟩ := partC_at k1 (some ⟨k4, 0, none⟩) i hlt
      refine ⟨_, rfl, by omega, by omega, partP k1 (some ⟨k4, 0, none⟩) i, ((supW.getD (3 + i) 0 : Nat) : Int), ⟨?_, ?_⟩, ?_⟩
      · rw [Int.toNat_natCast, addr_add, Nat.zero_add]; exact h8.ld (by first | exact List.Mem.head _ | exact List.Mem.tail _ (List.Mem.head _) | exact List.Mem.tail _ (List.Mem.tail _ (List.Mem.head _)) | exact List.Mem.tail _ (List.Mem.tail _ (List.Mem.tail _ (List.Mem.head _))) | exact List.Mem.tail _ (List.Mem.tail _ (List.Mem.tail _ (List.Mem.tail _ (List.Mem.head _)))) | exact List.Mem.tail _ (List.Mem.tail _ (List.Mem.tail _ (List.Mem.tail _ (List.Mem.tail _ (List.Mem.head _))))) | exact List.Mem.tail _ (List.Mem.tail _ (List.Mem.tail _ (List.Mem.tail _ (List.Mem.tail _ (List.Mem.tail _ (List.Mem.head _)))))) | exact List.Mem.tail _ (List.Mem.tail _ (List.Mem.tail _ (List.Mem.tail _ (List.Mem.tail _ (List.Mem.tail _ (List.Mem.tail _ (List.Mem.head _))))))) | exact List.Mem.tail _ (List.Mem.tail _ (List.Mem.tail _ (List.Mem.tail _ (List.Mem.tail _ (List.Mem.tail _ (List.Mem.tail _ (List.Mem.tail _ (List.Mem.head _)))))))) | exact List.Mem.tail _ (List.Mem.tail _ (List.Mem.tail _ (List.Mem.tail _ (List.Mem.tail _ (List.Mem.tail _ (List.Mem.tail _ (List.Mem.tail _ (List.Mem.tail _ (List.Mem.head _))))))))) | exact List.Mem.tail _ (List.Mem.tail _ (List.Mem.tail _ (List.Mem.tail _ (List.Mem.tail _ (List.Mem.tail _ (List.Mem.tail _ (List.Mem.tail _ (List.Mem.tail _ (List.Mem.tail _ (List.Mem.head _)))))))))) | exact List.Mem.tail _ (List.Mem.tail _ (List.Mem.tail _ (List.Mem.tail _ (List.Mem.tail _ (List.Mem.tail _ (List.Mem.tail _ (List.Mem.tail _ (List.Mem.tail _ (List.Mem.tail _ (List.Mem.tail _ (List.Mem.head _)))))))))))) p1
      · rw [Int.toNat_natCast, addr_add, addr_add, Nat.zero_add]; exact h8.ld (by first | exact List.Mem.head _ | exact List.Mem.tail _ (List.Mem.head _) | exact List.Mem.tail _ (List.Mem.tail _ (List.Mem.head _)) | exact List.Mem.tail _ (List.Mem.tail _ (List.Mem.tail _ (List.Mem.head _))) | exact List.Mem.tail _ (List.Mem.tail _ (List.Mem.tail _ (List.Mem.tail _ (List.Mem.head _)))) | exact List.Mem.tail _ (List.Mem.tail _ (List.Mem.tail _ (List.Mem.tail _ (List.Mem.tail _ (List.Mem.head _))))) | exact List.Mem.tail _ (List.Mem.tail _ (List.Mem.tail _ (List.Mem.tail _ (List.Mem.tail _ (List.Mem.tail _ (List.Mem.head _)))))) | exact List.Mem.tail _ (List.Mem.tail _ (List.Mem.tail _ (List.Mem.tail _ (List.Mem.tail _ (List.Mem.tail _ (List.Mem.tail _ (List.Mem.head _))))))) | exact List.Mem.tail _ (List.Mem.tail _ (List.Mem.tail _ (List.Mem.tail _ (List.Mem.tail _ (List.Mem.tail _ (List.Mem.tail _ (List.Mem.tail _ (List.Mem.head _)))))))) | exact List.Mem.tail _ (List.Mem.tail _ (List.Mem.tail _ (List.Mem.tail _ (List.Mem.tail _ (List.Mem.tail _ (List.Mem.tail _ (List.Mem.tail _ (List.Mem.tail _ (List.Mem.head _))))))))) | exact List.Mem.tail _ (List.Mem.tail _ (List.Mem.tail _ (List.Mem.tail _ (List.Mem.tail _ (List.Mem.tail _ (List.Mem.tail _ (List.Mem.tail _ (List.Mem.tail _ (List.Mem.tail _ (List.Mem.head _)))))))))) | exact List.Mem.tail _ (List.Mem.tail _ (List.Mem.tail _ (List.Mem.tail _ (List.Mem.tail _ (List.Mem.tail _ (List.Mem.tail _ (List.Mem.tail _ (List.Mem.tail _ (List.Mem.tail _ (List.Mem.tail _ (List.Mem.head _)))))))))))) p2
      refine Alloc.t h8 fun k7 w9 h9 => St.t h9 .head (by simp) (by rfl) rfl fun w10 h10 => St.t h10 .head (by simp) (by rfl) rfl fun w11 h11 => ?_
      obtain ⟨p, hp, hc⟩ := partV h (i := i) h11 (k1 := k1) (k4 := k4) (t1 := 58) (t4 := 3) (by first | exact List.Mem.head _ | exact List.Mem.tail _ (List.Mem.head _) | exact List.Mem.tail _ (List.Mem.tail _ (List.Mem.head _)) | exact List.Mem.tail _ (List.Mem.tail _ (List.Mem.tail _ (List.Mem.head _))) | exact List.Mem.tail _ (List.Mem.tail _ (List.Mem.tail _ (List.Mem.tail _ (List.Mem.head _)))) | exact List.Mem.tail _ (List.Mem.tail _ (List.Mem.tail _ (List.Mem.tail _ (List.Mem.tail _ (List.Mem.head _))))) | exact List.Mem.tail _ (List.Mem.tail _ (List.Mem.tail _ (List.Mem.tail _ (List.Mem.tail _ (List.Mem.tail _ (List.Mem.head _)))))) | exact List.Mem.tail _ (List.Mem.tail _ (List.Mem.tail _ (List.Mem.tail _ (List.Mem.tail _ (List.Mem.tail _ (List.Mem.tail _ (List.Mem.head _))))))) | exact List.Mem.tail _ (List.Mem.tail _ (List.Mem.tail _ (List.Mem.tail _ (List.Mem.tail _ (List.Mem.tail _ (List.Mem.tail _ (List.Mem.tail _ (List.Mem.head _)))))))) | exact List.Mem.tail _ (List.Mem.tail _ (List.Mem.tail _ (List.Mem.tail _ (List.Mem.tail _ (List.Mem.tail _ (List.Mem.tail _ (List.Mem.tail _ (List.Mem.tail _ (List.Mem.head _))))))))) | exact List.Mem.tail _ (List.Mem.tail _ (List.Mem.tail _ (List.Mem.tail _ (List.Mem.tail _ (List.Mem.tail _ (List.Mem.tail _ (List.Mem.tail _ (List.Mem.tail _ (List.Mem.tail _ (List.Mem.head _)))))))))) | exact List.Mem.tail _ (List.Mem.tail _ (List.Mem.tail _ (List.Mem.tail _ (List.Mem.tail _ (List.Mem.tail _ (List.Mem.tail _ (List.Mem.tail _ (List.Mem.tail _ (List.Mem.tail _ (List.Mem.tail _ (List.Mem.head _)))))))))))) (by first | exact List.Mem.head _ | exact List.Mem.tail _ (List.Mem.head _) | exact List.Mem.tail _ (List.Mem.tail _ (List.Mem.head _)) | exact List.Mem.tail _ (List.Mem.tail _ (List.Mem.tail _ (List.Mem.head _))) | exact List.Mem.tail _ (List.Mem.tail _ (List.Mem.tail _ (List.Mem.tail _ (List.Mem.head _)))) | exact List.Mem.tail _ (List.Mem.tail _ (List.Mem.tail _ (List.Mem.tail _ (List.Mem.tail _ (List.Mem.head _))))) | exact List.Mem.tail _ (List.Mem.tail _ (List.Mem.tail _ (List.Mem.tail _ (List.Mem.tail _ (List.Mem.tail _ (List.Mem.head _)))))) | exact List.Mem.tail _ (List.Mem.tail _ (List.Mem.tail _ (List.Mem.tail _ (List.Mem.tail _ (List.Mem.tail _ (List.Mem.tail _ (List.Mem.head _))))))) | exact List.Mem.tail _ (List.Mem.tail _ (List.Mem.tail _ (List.Mem.tail _ (List.Mem.tail _ (List.Mem.tail _ (List.Mem.tail _ (List.Mem.tail _ (List.Mem.head _)))))))) | exact List.Mem.tail _ (List.Mem.tail _ (List.Mem.tail _ (List.Mem.tail _ (List.Mem.tail _ (List.Mem.tail _ (List.Mem.tail _ (List.Mem.tail _ (List.Mem.tail _ (List.Mem.head _))))))))) | exact List.Mem.tail _ (List.Mem.tail _ (List.Mem.tail _ (List.Mem.tail _ (List.Mem.tail _ (List.Mem.tail _ (List.Mem.tail _ (List.Mem.tail _ (List.Mem.tail _ (List.Mem.tail _ (List.Mem.head _)))))))))) | exact List.Mem.tail _ (List.Mem.tail _ (List.Mem.tail _ (List.Mem.tail _ (List.Mem.tail _ (List.Mem.tail _ (List.Mem.tail _ (List.Mem.tail _ (List.Mem.tail _ (List.Mem.tail _ (List.Mem.tail _ (List.Mem.head _)))))))))))) hlt
      refine ⟨_, h11.ld (by first | exact List.Mem.head _ | exact List.Mem.tail _ (List.Mem.head _) | exact List.Mem.tail _ (List.Mem.tail _ (List.Mem.head _)) | exact List.Mem.tail _ (List.Mem.tail _ (List.Mem.tail _ (List.Mem.head _))) | exact List.Mem.tail _ (List.Mem.tail _ (List.Mem.tail _ (List.Mem.tail _ (List.Mem.head _)))) | exact List.Mem.tail _ (List.Mem.tail _ (List.Mem.tail _ (List.Mem.tail _ (List.Mem.tail _ (List.Mem.head _))))) | exact List.Mem.tail _ (List.Mem.tail _ (List.Mem.tail _ (List.Mem.tail _ (List.Mem.tail _ (List.Mem.tail _ (List.Mem.head _)))))) | exact List.Mem.tail _ (List.Mem.tail _ (List.Mem.tail _ (List.Mem.tail _ (List.Mem.tail _ (List.Mem.tail _ (List.Mem.tail _ (List.Mem.head _))))))) | exact List.Mem.tail _ (List.Mem.tail _ (List.Mem.tail _ (List.Mem.tail _ (List.Mem.tail _ (List.Mem.tail _ (List.Mem.tail _ (List.Mem.tail _ (List.Mem.head _)))))))) | exact List.Mem.tail _ (List.Mem.tail _ (List.Mem.tail _ (List.Mem.tail _ (List.Mem.tail _ (List.Mem.tail _ (List.Mem.tail _ (List.Mem.tail _ (List.Mem.tail _ (List.Mem.head _))))))))) | exact List.Mem.tail _ (List.Mem.tail _ (List.Mem.tail _ (List.Mem.tail _ (List.Mem.tail _ (List.Mem.tail _ (List.Mem.tail _ (List.Mem.tail _ (List.Mem.tail _ (List.Mem.tail _ (List.Mem.head _)))))))))) | exact List.Mem.tail _ (List.Mem.tail _ (List.Mem.tail _ (List.Mem.tail _ (List.Mem.tail _ (List.Mem.tail _ (List.Mem.tail _ (List.Mem.tail _ (List.Mem.tail _ (List.Mem.tail _ (List.Mem.tail _ (List.Mem.head _)))))))))))) rfl, _, hp, _, hc, ?_⟩
      have hsm := fieldsS_small h i hlt
      have e64 : IntKind.u64.wrap (((fieldsS a).getD (3 + i) 0 : Nat) : Int) = (((fieldsS a).getD (3 + i) 0 : Nat) : Int) := by rw [wrapU64]; omega
      rw [e64]
      refine push1_t (i := Try.t53) (z := .int .u64 0) (by kernel_rfl) (by kernel_rfl) (by kernel_rfl) (by kernel_rfl) (by kernel_rfl) (by kernel_rfl) h11 (.tail .head) rfl (by omega) fun g' cap' w12 h12 => ⟨⟨i + 1, g', cap', ?_, by omega, ?_⟩, ?_⟩
      · rw [wrap64 _ (by omega) (by omega)]; rfl
      · rw [u64s_take _ _ _ (fieldsS_at a hlt)] at h12
        exact T.dropAt h12 (.tail .head)
      · show ((8 : Int) - IntKind.i64.wrap ((i : Int) + 1)).toNat < ((8 : Int) - (i : Int)).toNat
        rw [wrap64 _ (by omega) (by omega)]; omega
    · have hie : i = 8 := by omega
      subst hie
      refine (widths_spec h8).mono fun e w9 ⟨g2, c2, he, h9⟩ => ⟨_, _, _, he, ?_⟩
      have h9' : T [] w w9 (rowP 3 1 g2 11 c2 (ints supW) :: rowP 53 1 g 11 cap (u64s (fieldsS a)) :: blk b (partC k1 0 (some ⟨k4, 0, none⟩)) 99 :: [blk k4 #[.int .i64 (if a.clean then 1 else 0)] 3, blk k1 (supC a) 58]) := h9
      refine (encode_spec supW_wid (fieldsS_len a) (fitsL_get (fieldsS_fit h)) h9' (g1 := g) (g2 := g2) (n1 := 11) (n2 := 11) (c1 := cap) (c2 := c2) rfl rfl (by first | exact List.Mem.head _ | exact List.Mem.tail _ (List.Mem.head _) | exact List.Mem.tail _ (List.Mem.tail _ (List.Mem.head _)) | exact List.Mem.tail _ (List.Mem.tail _ (List.Mem.tail _ (List.Mem.head _))) | exact List.Mem.tail _ (List.Mem.tail _ (List.Mem.tail _ (List.Mem.tail _ (List.Mem.head _)))) | exact List.Mem.tail _ (List.Mem.tail _ (List.Mem.tail _ (List.Mem.tail _ (List.Mem.tail _ (List.Mem.head _))))) | exact List.Mem.tail _ (List.Mem.tail _ (List.Mem.tail _ (List.Mem.tail _ (List.Mem.tail _ (List.Mem.tail _ (List.Mem.head _)))))) | exact List.Mem.tail _ (List.Mem.tail _ (List.Mem.tail _ (List.Mem.tail _ (List.Mem.tail _ (List.Mem.tail _ (List.Mem.tail _ (List.Mem.head _))))))) | exact List.Mem.tail _ (List.Mem.tail _ (List.Mem.tail _ (List.Mem.tail _ (List.Mem.tail _ (List.Mem.tail _ (List.Mem.tail _ (List.Mem.tail _ (List.Mem.head _)))))))) | exact List.Mem.tail _ (List.Mem.tail _ (List.Mem.tail _ (List.Mem.tail _ (List.Mem.tail _ (List.Mem.tail _ (List.Mem.tail _ (List.Mem.tail _ (List.Mem.tail _ (List.Mem.head _))))))))) | exact List.Mem.tail _ (List.Mem.tail _ (List.Mem.tail _ (List.Mem.tail _ (List.Mem.tail _ (List.Mem.tail _ (List.Mem.tail _ (List.Mem.tail _ (List.Mem.tail _ (List.Mem.tail _ (List.Mem.head _)))))))))) | exact List.Mem.tail _ (List.Mem.tail _ (List.Mem.tail _ (List.Mem.tail _ (List.Mem.tail _ (List.Mem.tail _ (List.Mem.tail _ (List.Mem.tail _ (List.Mem.tail _ (List.Mem.tail _ (List.Mem.tail _ (List.Mem.head _)))))))))))) (by first | exact List.Mem.head _ | exact List.Mem.tail _ (List.Mem.head _) | exact List.Mem.tail _ (List.Mem.tail _ (List.Mem.head _)) | exact List.Mem.tail _ (List.Mem.tail _ (List.Mem.tail _ (List.Mem.head _))) | exact List.Mem.tail _ (List.Mem.tail _ (List.Mem.tail _ (List.Mem.tail _ (List.Mem.head _)))) | exact List.Mem.tail _ (List.Mem.tail _ (List.Mem.tail _ (List.Mem.tail _ (List.Mem.tail _ (List.Mem.head _))))) | exact List.Mem.tail _ (List.Mem.tail _ (List.Mem.tail _ (List.Mem.tail _ (List.Mem.tail _ (List.Mem.tail _ (List.Mem.head _)))))) | exact List.Mem.tail _ (List.Mem.tail _ (List.Mem.tail _ (List.Mem.tail _ (List.Mem.tail _ (List.Mem.tail _ (List.Mem.tail _ (List.Mem.head _))))))) | exact List.Mem.tail _ (List.Mem.tail _ (List.Mem.tail _ (List.Mem.tail _ (List.Mem.tail _ (List.Mem.tail _ (List.Mem.tail _ (List.Mem.tail _ (List.Mem.head _)))))))) | exact List.Mem.tail _ (List.Mem.tail _ (List.Mem.tail _ (List.Mem.tail _ (List.Mem.tail _ (List.Mem.tail _ (List.Mem.tail _ (List.Mem.tail _ (List.Mem.tail _ (List.Mem.head _))))))))) | exact List.Mem.tail _ (List.Mem.tail _ (List.Mem.tail _ (List.Mem.tail _ (List.Mem.tail _ (List.Mem.tail _ (List.Mem.tail _ (List.Mem.tail _ (List.Mem.tail _ (List.Mem.tail _ (List.Mem.head _)))))))))) | exact List.Mem.tail _ (List.Mem.tail _ (List.Mem.tail _ (List.Mem.tail _ (List.Mem.tail _ (List.Mem.tail _ (List.Mem.tail _ (List.Mem.tail _ (List.Mem.tail _ (List.Mem.tail _ (List.Mem.tail _ (List.Mem.head _))))))))))))).mono fun e w10 ⟨he, h10⟩ => ⟨_, _, he, ?_⟩
      refine (seal_spec (strB (packS a)) 64 (by rw [strB_size, packS_len]; omega) (by omega) w10).mono fun e w11 ⟨he, hx⟩ => ⟨_, _, he, fun e => (by cases e), fun _ => ⟨rfl, (h10.quiet hx).chg.ext⟩⟩
  refine ⟨a.clean, h4.ld (by first | exact List.Mem.head _ | exact List.Mem.tail _ (List.Mem.head _) | exact List.Mem.tail _ (List.Mem.tail _ (List.Mem.head _)) | exact List.Mem.tail _ (List.Mem.tail _ (List.Mem.tail _ (List.Mem.head _))) | exact List.Mem.tail _ (List.Mem.tail _ (List.Mem.tail _ (List.Mem.tail _ (List.Mem.head _)))) | exact List.Mem.tail _ (List.Mem.tail _ (List.Mem.tail _ (List.Mem.tail _ (List.Mem.tail _ (List.Mem.head _))))) | exact List.Mem.tail _ (List.Mem.tail _ (List.Mem.tail _ (List.Mem.tail _ (List.Mem.tail _ (List.Mem.tail _ (List.Mem.head _)))))) | exact List.Mem.tail _ (List.Mem.tail _ (List.Mem.tail _ (List.Mem.tail _ (List.Mem.tail _ (List.Mem.tail _ (List.Mem.tail _ (List.Mem.head _))))))) | exact List.Mem.tail _ (List.Mem.tail _ (List.Mem.tail _ (List.Mem.tail _ (List.Mem.tail _ (List.Mem.tail _ (List.Mem.tail _ (List.Mem.tail _ (List.Mem.head _)))))))) | exact List.Mem.tail _ (List.Mem.tail _ (List.Mem.tail _ (List.Mem.tail _ (List.Mem.tail _ (List.Mem.tail _ (List.Mem.tail _ (List.Mem.tail _ (List.Mem.tail _ (List.Mem.head _))))))))) | exact List.Mem.tail _ (List.Mem.tail _ (List.Mem.tail _ (List.Mem.tail _ (List.Mem.tail _ (List.Mem.tail _ (List.Mem.tail _ (List.Mem.tail _ (List.Mem.tail _ (List.Mem.tail _ (List.Mem.head _)))))))))) | exact List.Mem.tail _ (List.Mem.tail _ (List.Mem.tail _ (List.Mem.tail _ (List.Mem.tail _ (List.Mem.tail _ (List.Mem.tail _ (List.Mem.tail _ (List.Mem.tail _ (List.Mem.tail _ (List.Mem.tail _ (List.Mem.head _)))))))))))) rfl, fun hc => ?_, fun hc => ?_⟩
  · refine St.t (c' := #[.int .i64 1]) h4 .head (show 0 < 1 by decide) rfl rfl fun w5 h5 => main w5 ?_
    rw [hc]; exact h5
  · refine main w4 ?_
    rw [hc]; exact h4
end Go.Proofs.Ytdppllkjibfjcaa
