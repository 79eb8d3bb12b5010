import Derived.Test.YtildomllnnnofaaGreatP9
/- Functions of the program and of the reference in plain terms. -/
namespace Go.Proofs.YtildomllnnnofaaGreat
open Go Go.Tm
set_option linter.unusedVariables false
set_option linter.unusedSimpArgs false
set_option linter.unusedSectionVars false
abbrev DSrc := (List Int) × (Int × (Int × Unit))
structure SrcOK (n : Int) (s : DSrc) : Prop where
  low : 0 ≤ s.2.1
  up : s.2.1 ≤ n
  byte : ∀ x ∈ s.1, 0 ≤ x ∧ x ≤ 255
  len : s.1.length ≤ 4096
theorem SrcOK.mono {n m : Int} {s : DSrc} (h : SrcOK n s) (hm : n ≤ m) : SrcOK m s := ⟨h.low, Int.le_trans h.up hm, h.byte, h.len⟩
theorem qxx (a : Int) : 0 ≤ iAnd .u64 a 255 ∧ iAnd .u64 a 255 ≤ 255 := by
  have e2 : (BitVec.ofInt 64 255).toNat = 255 := by decide
  have h : ((BitVec.ofInt IntKind.u64.bits a &&& BitVec.ofInt IntKind.u64.bits 255).toNat) ≤ 255 := by
    show ((BitVec.ofInt 64 a &&& BitVec.ofInt 64 255).toNat) ≤ 255
    rw [BitVec.toNat_and, e2]
    exact Nat.and_le_right
  unfold iAnd
  generalize (BitVec.ofInt IntKind.u64.bits a &&& BitVec.ofInt IntKind.u64.bits 255).toNat = m at h
  simp [IntKind.wrap, IntKind.signed, IntKind.bits]; omega
theorem qob (l : List Int) : spec_l00From l = some (((l, 0, 0, ()), ()), ()) := rfl
theorem qxc {l : List Int} (h : ∀ x ∈ l, 0 ≤ x ∧ x ≤ 255) (hl : l.length ≤ 4096) : SrcOK 0 ((l, 0, 0, ()) : DSrc) := ⟨Int.le_refl _, Int.le_refl _, h, hl⟩
theorem qe3 {n : Int} (hn : n ≤ 1000000000000) {s : DSrc} (h : SrcOK n s) : ∃ (v : Int) (s' : DSrc), spec_l00Src_next s = some ((v, ()), (s', ())) ∧ 0 ≤ v ∧ v ≤ 255 ∧ SrcOK (n + 1) s' := by
  obtain ⟨l, k, z, ⟨⟩⟩ := s
  have h0 := h.low
  have h1 := h.up
  have hb := h.byte
  have hl := h.len
  simp only at h0 h1 hb hl
  have ek : iAdd .i64 k 1 = k + 1 := qa8 (by omega) (by omega)
  have good : ∀ q : Int, SrcOK (n + 1) ((l, k + 1, q, ()) : DSrc) := fun q => ⟨by show 0 ≤ k + 1; omega, by show k + 1 ≤ n + 1; omega, hb, hl⟩
  have wb : ∀ a : Int, 0 ≤ iWrap .i64 (iAnd .u64 a 255) ∧ iWrap .i64 (iAnd .u64 a 255) ≤ 255 := fun a => by
    have := qxx a
    rw [qed (by omega) (by omega)]; exact this
  by_cases hk : k < (l.length : Int)
  · have e1 : iLt k (lenI l) = true := qah (by rw [qaa]; exact hk)
    have e2 : inB k l.length = true := qfm h0 hk
    have hlt : k.toNat < l.length := by omega
    have e3 : l.getD k.toNat 0 = l[k.toNat] := qau hlt
    have hx := hb _ (List.getElem_mem hlt)
    have e4 : iWrap .i64 l[k.toNat] = l[k.toNat] := qed (by omega) (by omega)
    have e5 : iLe (k + 1) (lenI l) = true := qaq (by rw [qaa]; omega)
    refine ⟨l[k.toNat], (l, k + 1, iAdd .u64 (iAdd .u64 (iMul .u64 z 6364136223846793005) (iWrap .u64 l[k.toNat])) 1442695040888963407, ()), ?_, hx.1, hx.2, good _⟩
    simp only [spec_l00Src_next, e1, e2, e3, e4, ek, e5, cond_true]
  · have e1 : iLt k (lenI l) = false := qag (by rw [qaa]; exact hk)
    have e5 : iLe (k + 1) (lenI l) = false := qc9 (by rw [qaa]; omega)
    refine ⟨_, _, by simp only [spec_l00Src_next, e1, ek, e5, cond_false]; rfl, (wb _).1, (wb _).2, good _⟩
theorem qbf {n : Int} (hn : n ≤ 999999999999) {s : DSrc} (h : SrcOK n s) (k : Int) (hk : k ≤ 60000) : ∃ (v : Int) (s' : DSrc), spec_l00Src_pick s k = some ((v, ()), (s', ())) ∧ 0 ≤ v ∧ v ≤ 60000 ∧ (1 ≤ k → v < k) ∧ SrcOK (n + 2) s' := by
  by_cases h1 : k ≤ 1
  · have e : iLe k 1 = true := qaq h1
    exact ⟨0, s, by simp only [spec_l00Src_pick, e, cond_true], Int.le_refl _, by omega, fun h => by omega, h.mono (by omega)⟩
  · have e : iLe k 1 = false := qc9 h1
    have e0 : iEq k 0 = false := qbm (by omega)
    obtain ⟨v, s1, hv, v0, v1, hs1⟩ := qe3 (by omega) h
    have key : ∀ x : Int, 0 ≤ x → 0 ≤ iRem .i64 x k ∧ iRem .i64 x k < k := fun x hx => by
      have : iRem .i64 x k = x % k := Int.tmod_eq_emod_of_nonneg hx
      rw [this]
      exact ⟨Int.emod_nonneg _ (by omega), Int.emod_lt_of_pos _ (by omega)⟩
    by_cases h2 : 200 < k
    · have e2 : iLt 200 k = true := qah h2
      obtain ⟨u, s2, hu, u0, u1, hs2⟩ := qe3 (by omega) hs1
      have m1 : iMul .i64 v 256 = v * 256 := qlk (by omega) (by omega)
      have m2 : iAdd .i64 (v * 256) u = v * 256 + u := qa8 (by omega) (by omega)
      have := key (v * 256 + u) (by omega)
      refine ⟨iRem .i64 (v * 256 + u) k, s2, ?_, this.1, by omega, fun _ => this.2, hs2.mono (by omega)⟩
      simp only [spec_l00Src_pick, e, e0, e2, hv, hu, m1, m2, Option.bind_some, cond_true, cond_false]
    · have e2 : iLt 200 k = false := qag h2
      have := key v v0
      refine ⟨iRem .i64 v k, s1, ?_, this.1, by omega, fun _ => this.2, hs1.mono (by omega)⟩
      simp only [spec_l00Src_pick, e, e0, e2, hv, Option.bind_some, cond_false]
end Go.Proofs.YtildomllnnnofaaGreat
