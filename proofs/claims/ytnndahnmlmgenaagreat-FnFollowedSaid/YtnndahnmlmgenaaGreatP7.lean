/- Functions of the program and of the reference in plain terms. -/
import Derived.Test.YtnndahnmlmgenaaGreatP6
namespace Go.Proofs.YtnndahnmlmgenaaGreat
open Go Go.Tm
set_option linter.unusedVariables false
set_option linter.unusedSimpArgs false
set_option linter.unusedSectionVars false
/-! ### sources of draws -/
abbrev DSrc := (List Int) × (Int × (Int × Unit))
structure SrcOK (n : Int) (s : DSrc) : Prop where
  low : 0 ≤ s.2.1
  up : s.2.1 ≤ n
  byte : ∀ x ∈ s.1, 0 ≤ x ∧ x ≤ 255
  len : s.1.length ≤ 4096
theorem SrcOK.mono {n m : Int} {s : DSrc} (h : SrcOK n s) (hm : n ≤ m) : SrcOK m s := ⟨h.low, Int.le_trans h.up hm, h.byte, h.len⟩
theorem and_byte (a : Int) : 0 ≤ iAnd .u64 a 255 ∧ iAnd .u64 a 255 ≤ 255 := by
  have e2 : (BitVec.ofInt 64 255).toNat = 255 := by decide
  have h : ((BitVec.ofInt IntKind.u64.bits a &&& BitVec.ofInt IntKind.u64.bits 255).toNat) ≤ 255 := by
    show ((BitVec.ofInt 64 a &&& BitVec.ofInt 64 255).toNat) ≤ 255
    rw [BitVec.toNat_and, e2]
    exact Nat.and_le_right
  unfold iAnd
  generalize (BitVec.ofInt IntKind.u64.bits a &&& BitVec.ofInt IntKind.u64.bits 255).toNat = m at h
  simp [IntKind.wrap, IntKind.signed, IntKind.bits]; omega
theorem spec_l00From_ok (l : List Int) : spec_l00From l = some (((l, 0, 0, ()), ()), ()) := rfl
theorem src_from {l : List Int} (h : ∀ x ∈ l, 0 ≤ x ∧ x ≤ 255) (hl : l.length ≤ 4096) : SrcOK 0 ((l, 0, 0, ()) : DSrc) := ⟨Int.le_refl _, Int.le_refl _, h, hl⟩
theorem spec_next_ok {n : Int} (hn : n ≤ 1000000000000) {s : DSrc} (h : SrcOK n s) : ∃ (v : Int) (s' : DSrc), spec_l00Src_next s = some ((v, ()), (s', ())) ∧ 0 ≤ v ∧ v ≤ 255 ∧ SrcOK (n + 1) s' := by
  obtain ⟨l, k, z, ⟨⟩⟩ := s
  have h0 := h.low
  have h1 := h.up
  have hb := h.byte
  have hl := h.len
  simp only at h0 h1 hb hl
  have ek : iAdd .i64 k 1 = k + 1 := iAdd_eq (by omega) (by omega)
  have good : ∀ q : Int, SrcOK (n + 1) ((l, k + 1, q, ()) : DSrc) := fun q => ⟨by show 0 ≤ k + 1; omega, by show k + 1 ≤ n + 1; omega, hb, hl⟩
  have wb : ∀ a : Int, 0 ≤ iWrap .i64 (iAnd .u64 a 255) ∧ iWrap .i64 (iAnd .u64 a 255) ≤ 255 := fun a => by
    have := and_byte a
    rw [wrap_i64 (by omega) (by omega)]; exact this
  by_cases hk : k < (l.length : Int)
  · have e1 : iLt k (lenI l) = true := iLt_pos (by rw [lenI_eq]; exact hk)
    have e2 : inB k l.length = true := inB_int h0 hk
    have hlt : k.toNat < l.length := by omega
    have e3 : l.getD k.toNat 0 = l[k.toNat] := getD_of hlt
    have hx := hb _ (List.getElem_mem hlt)
    have e4 : iWrap .i64 l[k.toNat] = l[k.toNat] := wrap_i64 (by omega) (by omega)
    have e5 : iLe (k + 1) (lenI l) = true := iLe_pos (by rw [lenI_eq]; omega)
    refine ⟨l[k.toNat], (l, k + 1, iAdd .u64 (iAdd .u64 (iMul .u64 z 6364136223846793005) (iWrap .u64 l[k.toNat])) 1442695040888963407, ()), ?_, hx.1, hx.2, good _⟩
    simp only [spec_l00Src_next, e1, e2, e3, e4, ek, e5, cond_true]
  · have e1 : iLt k (lenI l) = false := iLt_neg (by rw [lenI_eq]; exact hk)
    have e5 : iLe (k + 1) (lenI l) = false := iLe_neg (by rw [lenI_eq]; omega)
    refine ⟨_, _, by simp only [spec_l00Src_next, e1, ek, e5, cond_false]; rfl, (wb _).1, (wb _).2, good _⟩
theorem spec_pick_ok {n : Int} (hn : n ≤ 999999999999) {s : DSrc} (h : SrcOK n s) (k : Int) (hk : k ≤ 60000) : ∃ (v : Int) (s' : DSrc), spec_l00Src_pick s k = some ((v, ()), (s', ())) ∧ 0 ≤ v ∧ v ≤ 60000 ∧ (1 ≤ k → v < k) ∧ SrcOK (n + 2) s' := by
  by_cases h1 : k ≤ 1
  · have e : iLe k 1 = true := iLe_pos h1
    exact ⟨0, s, by simp only [spec_l00Src_pick, e, cond_true], Int.le_refl _, by omega, fun h => by omega, h.mono (by omega)⟩
  · have e : iLe k 1 = false := iLe_neg h1
    have e0 : iEq k 0 = false := iEq_neg (by omega)
    obtain ⟨v, s1, hv, v0, v1, hs1⟩ := spec_next_ok (by omega) h
    have key : ∀ x : Int, 0 ≤ x → 0 ≤ iRem .i64 x k ∧ iRem .i64 x k < k := fun x hx => by
      have : iRem .i64 x k = x % k := Int.tmod_eq_emod_of_nonneg hx
      rw [this]
      exact ⟨Int.emod_nonneg _ (by omega), Int.emod_lt_of_pos _ (by omega)⟩
    by_cases h2 : 200 < k
    · have e2 : iLt 200 k = true := iLt_pos h2
      obtain ⟨u, s2, hu, u0, u1, hs2⟩ := spec_next_ok (by omega) hs1
      have m1 : iMul .i64 v 256 = v * 256 := iMul_eq (by omega) (by omega)
      have m2 : iAdd .i64 (v * 256) u = v * 256 + u := iAdd_eq (by omega) (by omega)
      have := key (v * 256 + u) (by omega)
      refine ⟨iRem .i64 (v * 256 + u) k, s2, ?_, this.1, by omega, fun _ => this.2, hs2.mono (by omega)⟩
      simp only [spec_l00Src_pick, e, e0, e2, hv, hu, m1, m2, Option.bind_some, cond_true, cond_false]
    · have e2 : iLt 200 k = false := iLt_neg h2
      have := key v v0
      refine ⟨iRem .i64 v k, s1, ?_, this.1, by omega, fun _ => this.2, hs1.mono (by omega)⟩
      simp only [spec_l00Src_pick, e, e0, e2, hv, Option.bind_some, cond_false]

theorem laws_f6big_ok (l : List Int) : laws_f6big l = some ((iLt 4096 (lenI l), ()), ()) := rfl

/-! ### grids that are drawn -/
theorem spec_EmptyGrid_ok {a b : Int} (ha : 1 ≤ a) (ha1 : a ≤ 24) (hb : 1 ≤ b) (hb1 : b ≤ 24) : spec_EmptyGrid a b = some (((a, b, List.replicate (a * b).toNat (0 : Int), ()), 0, ()), ()) := by
  have h6 : 0 ≤ a * b := Int.mul_nonneg (by omega) (by omega)
  have h7 : a * b ≤ 24 * 24 := Int.mul_le_mul ha1 hb1 (by omega) (by omega)
  have e1 : (iLe 1 a && iLe a 24) = true := by rw [iLe_pos ha, iLe_pos ha1]; rfl
  have e2 : (iLe 1 b && iLe b 24) = true := by rw [iLe_pos hb, iLe_pos hb1]; rfl
  have e3 : iMul .i64 a b = a * b := iMul_eq (by omega) (by omega)
  have e4 : (iLe 0 (a * b) && iLe (a * b) (a * b) && room (a * b).toNat 1) = true := by
    rw [iLe_pos h6, iLe_pos (Int.le_refl _), room_pos (by omega)]; rfl
  simp only [spec_EmptyGrid, l00In_ok, e1, e2, e3, e4, Option.bind_some, Bool.not_true, cond_false, cond_true]

/-- costs that are bytes -/
def Bytes (w h : Int) (c : List Int) : Prop := (c.length : Int) = w * h ∧ ∀ x ∈ c, 0 ≤ x ∧ x ≤ 255
theorem Bytes.set {w h : Int} {c : List Int} (hc : Bytes w h c) (i : Nat) {v : Int} (h0 : 0 ≤ v) (h1 : v ≤ 255) : Bytes w h (c.set i v) :=
  ⟨by rw [List.length_set]; exact hc.1, fun x hx => by
    rcases List.mem_or_eq_of_mem_set hx with hx | rfl
    · exact hc.2 x hx
    · exact ⟨h0, h1⟩⟩
theorem wrap_u8 (a : Int) : 0 ≤ iWrap .u8 a ∧ iWrap .u8 a ≤ 255 := by
  simp [iWrap, IntKind.wrap, IntKind.signed, IntKind.bits]; omega
theorem drawn_step {walls : Int} {z : (((List Int) × (Int × (Int × Unit))) × Unit)} {n : Int} (hn : n ≤ 999999999) {s : DSrc} (hs : SrcOK n s) {w h : Int} {c : List Int} (hc : Bytes w h c) (hlen : c.length ≤ 576) {i : Nat} (hi : i < c.length) :
    ∃ (c' : List Int) (s' : DSrc), spec_l07Drawn_l4 ((walls, ()), z) ((i : Int), (w, h, c, ()), s, ()) = some (.inl (((i + 1 : Nat) : Int), (w, h, c', ()), s', ())) ∧ Bytes w h c' ∧ SrcOK (n + 4) s' := by
  obtain ⟨v, s1, hv, _, _, _, hs1⟩ := spec_pick_ok (by omega) hs 12 (by omega)
  obtain ⟨a, s2, ha, _, _, _, hs2⟩ := spec_pick_ok (n := n + 2) (by omega) hs1 9 (by omega)
  obtain ⟨b, s3, hb, _, _, _, hs3⟩ := spec_pick_ok (n := n + 2) (by omega) hs1 256 (by omega)
  have hs1' : SrcOK (n + 4) s1 := hs1.mono (by omega)
  have hs2' : SrcOK (n + 4) s2 := hs2.mono (by omega)
  have hs3' : SrcOK (n + 4) s3 := hs3.mono (by omega)
  have e1 : iLt (i : Int) (lenI c) = true := iLt_pos (by rw [lenI_eq]; omega)
  have e2 : inB (i : Int) c.length = true := inB_pos hi
  have e3 : iAdd .i64 (i : Int) 1 = ((i + 1 : Nat) : Int) := iAdd_one hi (by omega)
  have w1 := wrap_u8 (iMul .i64 10 (iAdd .i64 1 a))
  have w2 := wrap_u8 b
  simp only [spec_l07Drawn_l4, e1, e2, e3, hv, ha, hb, Option.bind_some, cond_true, Int.toNat_natCast]
  cases iEq v 0 <;> cases iEq v 1 <;> cases iEq v 2 <;> cases iEq v 3 <;> cases iEq v 4 <;> cases iLt 0 walls <;> first
    | exact ⟨_, _, rfl, hc.set _ (by omega) (by omega), hs1'⟩
    | exact ⟨_, _, rfl, hc, hs1'⟩
    | exact ⟨_, _, rfl, hc.set _ w1.1 w1.2, hs2'⟩
    | exact ⟨_, _, rfl, hc.set _ w2.1 w2.2, hs3'⟩
theorem spec_l07Drawn_ok {n : Int} (hn : n ≤ 99999999) {s : DSrc} (hs : SrcOK n s) : ∃ (g : DGrid) (s' : DSrc), spec_l07Drawn s = some ((g, ()), (s', ())) ∧ Fit TyGrid g ∧ gridB g = true ∧ SrcOK (n + 3000) s' ∧ g.1 ≤ 7 ∧ g.2.1 ≤ 7 := by
  obtain ⟨a, s1, ha, a0, _, a1, hs1⟩ := spec_pick_ok (by omega) hs 7 (by omega)
  obtain ⟨b, s2, hb, b0, _, b1, hs2⟩ := spec_pick_ok (n := n + 2) (by omega) hs1 7 (by omega)
  obtain ⟨c, s3, hc, _, _, _, hs3⟩ := spec_pick_ok (n := n + 2 + 2) (by omega) hs2 4 (by omega)
  have a1 := a1 (by omega)
  have b1 := b1 (by omega)
  have e1 : iAdd .i64 1 a = 1 + a := iAdd_eq (by omega) (by omega)
  have e2 : iAdd .i64 1 b = 1 + b := iAdd_eq (by omega) (by omega)
  have e3 := spec_EmptyGrid_ok (a := 1 + a) (b := 1 + b) (by omega) (by omega) (by omega) (by omega)
  have h6 : 0 ≤ (1 + a) * (1 + b) := Int.mul_nonneg (by omega) (by omega)
  have h7 : (1 + a) * (1 + b) ≤ 7 * 7 := Int.mul_le_mul (by omega) (by omega) (by omega) (by omega)
  have hB : Bytes (1 + a) (1 + b) (List.replicate ((1 + a) * (1 + b)).toNat (0 : Int)) := ⟨by rw [List.length_replicate]; omega, fun x hx => by rw [List.eq_of_mem_replicate hx]; omega⟩
  have r := run_inv (f := spec_l07Drawn_l4 ((c, ()), (s3, ()))) (fun x => ∃ (i : Nat) (l : List Int) (q : DSrc), x = ((i : Int), (1 + a, 1 + b, l, ()), q, ()) ∧ i ≤ l.length ∧ Bytes (1 + a) (1 + b) l ∧ SrcOK (n + 6 + 4 * i) q) (fun x => ((1 + a) * (1 + b) - x.1).toNat) (fun y => ∃ (g : DGrid) (s' : DSrc), y = ((g, ()), (s', ())) ∧ Fit TyGrid g ∧ gridB g = true ∧ SrcOK (n + 3000) s' ∧ g.1 ≤ 7 ∧ g.2.1 ≤ 7) (fun x hI => by
    obtain ⟨i, l, q, rfl, hi, hl, hq⟩ := hI
    have hll := hl.1
    by_cases hlt : i < l.length
    · left
      obtain ⟨l', q', h1, h2, h3⟩ := drawn_step (walls := c) (z := (s3, ())) (n := n + 6 + 4 * i) (by omega) hq hl (by omega) hlt
      have hll' := h2.1
      refine ⟨_, h1, ⟨i + 1, l', q', rfl, by omega, h2, h3.mono (by omega)⟩, ?_⟩
      show ((1 + a) * (1 + b) - ((i + 1 : Nat) : Int)).toNat < ((1 + a) * (1 + b) - (i : Int)).toNat
      omega
    · right
      have e1 : iLt (i : Int) (lenI l) = false := iLt_neg (by rw [lenI_eq]; omega)
      refine ⟨_, by simp only [spec_l07Drawn_l4, e1, cond_false]; rfl, (1 + a, 1 + b, l, ()), q, rfl, ?_, ?_, hq.mono (by omega), by show 1 + a ≤ 7; omega, by show 1 + b ≤ 7; omega⟩
      · refine ⟨⟨by show (-9223372036854775808 : Int) ≤ 1 + a; omega, by show 1 + a ≤ (9223372036854775807 : Int); omega⟩, ⟨by show (-9223372036854775808 : Int) ≤ 1 + b; omega, by show 1 + b ≤ (9223372036854775807 : Int); omega⟩, ⟨?_, fun x hx => ?_⟩, trivial⟩
        · show l.length * 1 ≤ 140737488351232
          omega
        · exact ⟨(hl.2 x hx).1, (hl.2 x hx).2⟩
      · have e5 : iMul .i64 (1 + a) (1 + b) = (1 + a) * (1 + b) := iMul_eq (by omega) (by omega)
        simp only [gridB, Bool.and_eq_true, iLe_true, iEq_true, e5, lenI_eq]
        omega) (s := ((0 : Int), (1 + a, 1 + b, List.replicate ((1 + a) * (1 + b)).toNat (0 : Int), ()), s3, ())) ⟨0, _, s3, rfl, Nat.zero_le _, hB, hs3.mono (by omega)⟩
  obtain ⟨y, hy, g, s', rfl, h⟩ := r
  refine ⟨g, s', ?_, h⟩
  simp only [spec_l07Drawn, ha, hb, hc, e1, e2, e3, Option.bind_some]
  exact hy

theorem bytes_fit {l : List Int} (h : Fit (.list (.int .u8)) l) : ∀ x ∈ l, 0 ≤ x ∧ x ≤ 255 := fun x hx => h.2 x hx

theorem p6Grid_ok {l : List Int} (h : Fit (.list (.int .u8)) l) (hl : l.length ≤ 4096) : ∃ g : DGrid, spec_P6Grid l = some ((g, ()), ()) ∧ Fit TyGrid g ∧ gridB g = true ∧ g.1 ≤ 7 ∧ g.2.1 ≤ 7 := by
  obtain ⟨g, s', h1, h2, h3, _, h5, h6⟩ := spec_l07Drawn_ok (n := 0) (by omega) (src_from (bytes_fit h) hl)
  refine ⟨g, ?_, h2, h3, h5, h6⟩
  obtain ⟨g1, g2, g3, ⟨⟩⟩ := g
  simp only [spec_P6Grid, spec_l00From_ok, h1, Option.bind_some]

theorem p6Spot_ok {l : List Int} (h : Fit (.list (.int .u8)) l) (hl : l.length ≤ 4096) {g : DGrid} (hg : gridB g = true) : ∃ s : Vec 2 Int, spec_P6Spot l g = some ((s, ()), ()) ∧ Fit TySpot s ∧ hasB g s = true := by
  obtain ⟨g1, g2, g3, g4, g5⟩ := gridB_true hg
  obtain ⟨a, s1, ha, a0, _, a1, hs1⟩ := spec_pick_ok (n := 0) (by omega) (src_from (bytes_fit h) hl) g.1 (by omega)
  obtain ⟨b, s2, hb, b0, _, b1, hs2⟩ := spec_pick_ok (n := 0 + 2) (by omega) hs1 g.2.1 (by omega)
  have a1 := a1 g1
  have b1 := b1 g3
  have e1 : iWrap .i16 a = a := wrap_i16 (by omega) (by omega)
  have e2 : iWrap .i16 b = b := wrap_i16 (by omega) (by omega)
  have hf : Fit TySpot ((a, b, ()) : Vec 2 Int) := fit_spot (by omega) (by omega) (by omega) (by omega)
  refine ⟨(a, b, ()), ?_, hf, (hasB_iff hf hg).2 ⟨a0, a1, b0, b1⟩⟩
  simp only [spec_P6Spot, spec_l00From_ok, ha, hb, e1, e2, Option.bind_some]
end Go.Proofs.YtnndahnmlmgenaaGreat
