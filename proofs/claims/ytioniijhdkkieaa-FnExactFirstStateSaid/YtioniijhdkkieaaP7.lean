/- Functions of the program and of the reference in plain terms. -/
import Derived.Test.YtioniijhdkkieaaP6
namespace Go.Proofs.Ytioniijhdkkieaa
open Go Go.Tm
set_option linter.unusedVariables false
set_option linter.unusedSimpArgs false
set_option linter.unusedSectionVars false
/-! ### sources of draws -/
abbrev DSrc := (List Int) × (Int × (Int × Unit))
structure SrcOK (n : Int) (s : DSrc) : Prop where
  low : 0 ≤ s.2.1
  up : s.2.1 ≤ n
  byte : ∀ x ∈ s.1, 0 ≤ x ∧ x ≤ 255
  len : s.1.length ≤ 4096
theorem SrcOK.mono {n m : Int} {s : DSrc} (h : SrcOK n s) (hm : n ≤ m) : SrcOK m s := ⟨h.low, Int.le_trans h.up hm, h.byte, h.len⟩
theorem and_byte (a : Int) : 0 ≤ iAnd .u64 a 255 ∧ iAnd .u64 a 255 ≤ 255 := by
  have e2 : (BitVec.ofInt 64 255).toNat = 255 := by decide
  have h : ((BitVec.ofInt IntKind.u64.bits a &&& BitVec.ofInt IntKind.u64.bits 255).toNat) ≤ 255 := by
    show ((BitVec.ofInt 64 a &&& BitVec.ofInt 64 255).toNat) ≤ 255
    rw [BitVec.toNat_and, e2]
    exact Nat.and_le_right
  unfold iAnd
  generalize (BitVec.ofInt IntKind.u64.bits a &&& BitVec.ofInt IntKind.u64.bits 255).toNat = m at h
  simp [IntKind.wrap, IntKind.signed, IntKind.bits]; omega
theorem spec_l00From_ok (l : List Int) : spec_l00From l = some (((l, 0, 0, ()), ()), ()) := rfl
theorem src_from {l : List Int} (h : ∀ x ∈ l, 0 ≤ x ∧ x ≤ 255) (hl : l.length ≤ 4096) : SrcOK 0 ((l, 0, 0, ()) : DSrc) := ⟨Int.le_refl _, Int.le_refl _, h, hl⟩
theorem spec_next_ok {n : Int} (hn : n ≤ 1000000000000) {s : DSrc} (h : SrcOK n s) : ∃ (v : Int) (s' : DSrc), spec_l00Src_next s = some ((v, ()), (s', ())) ∧ 0 ≤ v ∧ v ≤ 255 ∧ SrcOK (n + 1) s' := by
  obtain ⟨l, k, z, ⟨⟩⟩ := s
  have h0 := h.low
  have h1 := h.up
  have hb := h.byte
  have hl := h.len
  simp only at h0 h1 hb hl
  have ek : iAdd .i64 k 1 = k + 1 := iAdd_eq (by omega) (by omega)
  have good : ∀ q : Int, SrcOK (n + 1) ((l, k + 1, q, ()) : DSrc) := fun q => ⟨by show 0 ≤ k + 1; omega, by show k + 1 ≤ n + 1; omega, hb, hl⟩
  have wb : ∀ a : Int, 0 ≤ iWrap .i64 (iAnd .u64 a 255) ∧ iWrap .i64 (iAnd .u64 a 255) ≤ 255 := fun a => by
    have := and_byte a
    rw [wrap_i64 (by omega) (by omega)]; exact this
  by_cases hk : k < (l.length : Int)
  · have e1 : iLt k (lenI l) = true := iLt_pos (by rw [lenI_eq]; exact hk)
    have e2 : inB k l.length = true := inB_int h0 hk
    have hlt : k.toNat < l.length := by omega
    have e3 : l.getD k.toNat 0 = l[k.toNat] := getD_of hlt
    have hx := hb _ (List.getElem_mem hlt)
    have e4 : iWrap .i64 l[k.toNat] = l[k.toNat] := wrap_i64 (by omega) (by omega)
    have e5 : iLe (k + 1) (lenI l) = true := iLe_pos (by rw [lenI_eq]; omega)
    refine ⟨l[k.toNat], (l, k + 1, iAdd .u64 (iAdd .u64 (iMul .u64 z 6364136223846793005) (iWrap .u64 l[k.toNat])) 1442695040888963407, ()), ?_, hx.1, hx.2, good _⟩
    simp only [spec_l00Src_next, e1, e2, e3, e4, ek, e5, cond_true]
  · have e1 : iLt k (lenI l) = false := iLt_neg (by rw [lenI_eq]; exact hk)
    have e5 : iLe (k + 1) (lenI l) = false := iLe_neg (by rw [lenI_eq]; omega)
    refine ⟨_, _, by simp only [spec_l00Src_next, e1, ek, e5, cond_false]; rfl, (wb _).1, (wb _).2, good _⟩
theorem spec_pick_ok {n : Int} (hn : n ≤ 999999999999) {s : DSrc} (h : SrcOK n s) (k : Int) (hk : k ≤ 60000) : ∃ (v : Int) (s' : DSrc), spec_l00Src_pick s k = some ((v, ()), (s', ())) ∧ 0 ≤ v ∧ v ≤ 60000 ∧ (1 ≤ k → v < k) ∧ SrcOK (n + 2) s' := by
  by_cases h1 : k ≤ 1
  · have e : iLe k 1 = true := iLe_pos h1
    exact ⟨0, s, by simp only [spec_l00Src_pick, e, cond_true], Int.le_refl _, by omega, fun h => by omega, h.mono (by omega)⟩
  · have e : iLe k 1 = false := iLe_neg h1
    have e0 : iEq k 0 = false := iEq_neg (by omega)
    obtain ⟨v, s1, hv, v0, v1, hs1⟩ := spec_next_ok (by omega) h
    have key : ∀ x : Int, 0 ≤ x → 0 ≤ iRem .i64 x k ∧ iRem .i64 x k < k := fun x hx => by
      have : iRem .i64 x k = x % k := Int.tmod_eq_emod_of_nonneg hx
      rw [this]
      exact ⟨Int.emod_nonneg _ (by omega), Int.emod_lt_of_pos _ (by omega)⟩
    by_cases h2 : 200 < k
    · have e2 : iLt 200 k = true := iLt_pos h2
      obtain ⟨u, s2, hu, u0, u1, hs2⟩ := spec_next_ok (by omega) hs1
      have m1 : iMul .i64 v 256 = v * 256 := iMul_eq (by omega) (by omega)
      have m2 : iAdd .i64 (v * 256) u = v * 256 + u := iAdd_eq (by omega) (by omega)
      have := key (v * 256 + u) (by omega)
      refine ⟨iRem .i64 (v * 256 + u) k, s2, ?_, this.1, by omega, fun _ => this.2, hs2.mono (by omega)⟩
      simp only [spec_l00Src_pick, e, e0, e2, hv, hu, m1, m2, Option.bind_some, cond_true, cond_false]
    · have e2 : iLt 200 k = false := iLt_neg h2
      have := key v v0
      refine ⟨iRem .i64 v k, s1, ?_, this.1, by omega, fun _ => this.2, hs1.mono (by omega)⟩
      simp only [spec_l00Src_pick, e, e0, e2, hv, Option.bind_some, cond_false]

theorem laws_f6big_ok (l : List Int) : laws_f6big l = some ((iLt 4096 (lenI l), ()), ()) := rfl

/-! ### grids that are drawn -/
theorem spec_EmptyGrid_ok {a b : Int} (ha : 1 ≤ a) (ha1 : a ≤ 24) (hb : 1 ≤ b) (hb1 : b ≤ 24) : spec_EmptyGrid a b = some (((a, b, List.replicate (a * b).toNat (0 : Int), ()), 0, ()), ()) := by
  have h6 : 0 ≤ a * b := Int.mul_nonneg (by omega) (by omega)
  have h7 : a * b ≤ 24 * 24 := Int.mul_le_mul ha1 hb1 (by omega) (by omega)
  have e1 : (iLe 1 a && iLe a 24) = true := by rw [iLe_pos ha, iLe_pos ha1]; rfl
  have e2 : (iLe 1 b && iLe b 24) = true := by rw [iLe_pos hb, iLe_pos hb1]; rfl
  have e3 : iMul .i64 a b = a * b := iMul_eq (by omega) (by omega)
  have e4 : (iLe 0 (a * b) && iLe (a * b) (a * b) && room (a * b).toNat 1) = true := by
    rw [iLe_pos h6, iLe_pos (Int.le_refl _), room_pos (by omega)]; rfl
  simp only [spec_EmptyGrid, l00In_ok, e1, e2, e3, e4, Option.bind_some, Bool.not_true, cond_false, cond_true]

/-- costs that are bytes -/
def Bytes (w h : Int) (c : List Int) : Prop := (c.length : Int) = w * h ∧ ∀ x ∈ c, 0 ≤ x ∧ x ≤ 255
theorem Bytes.set {w h : Int} {c : List Int} (hc : Bytes w h c) (i : Nat) {v : Int} (h0 : 0 ≤ v) (h1 : v ≤ 255) : Bytes w h (c.set i v) :=
  ⟨by rw [List.length_set]; exact hc.1, fun x hx => by
    rcases List.mem_or_eq_of_mem_set hx with hx | rfl
    · exact hc.2 x hx
    · exact ⟨h0, h1⟩⟩
theorem wrap_u8 (a : Int) : 0 ≤ iWrap .u8 a ∧ iWrap .u8 a ≤ 255 := by
  simp [iWrap, IntKind.wrap, IntKind.signed, IntKind.bits]; omega
theorem drawn_step {walls : Int} {z : (((List Int) × (Int × (Int × Unit))) × Unit)} {n : Int} (hn : n ≤ 999999999) {s : DSrc} (hs : SrcOK n s) {w h : Int} {c : List Int} (hc : Bytes w h c) (hlen : c.length ≤ 576) {i : Nat} (hi : i < c.length) :
    ∃ (c' : List Int) (s' : DSrc), spec_l07Drawn_l4 ((walls, ()), z) ((i : Int), (w, h, c, ()), s, ()) = some (.inl (((i + 1 : Nat) : Int), (w, h, c', ()), s', ())) ∧ Bytes w h c' ∧ SrcOK (n + 4) s' := by
  obtain ⟨v, s1, hv, _, _, _, hs1⟩ := spec_pick_ok (by omega) hs 12 (by omega)
  obtain ⟨a, s2, ha, _, _, _, hs2⟩ := spec_pick_ok (n := n + 2) (by omega) hs1 9 (by omega)
  obtain ⟨b, s3, hb, _, _, _, hs3⟩ := spec_pick_ok (n := n + 2) (by omega) hs1 256 (by omega)
  have hs1' : SrcOK (n + 4) s1 := hs1.mono (by omega)
  have hs2' : SrcOK (n + 4) s2 := hs2.mono (by omega)
  have hs3' : SrcOK (n + 4) s3 := hs3.mono (by omega)
  have e1 : iLt (i : Int) (lenI c) = true := iLt_pos (by rw [lenI_eq]; omega)
  have e2 : inB (i : Int) c.length = true := inB_pos hi
  have e3 : iAdd .i64 (i : Int) 1 = ((i + 1 : Nat) : Int) := iAdd_one hi (by omega)
  have w1 := wrap_u8 (iMul .i64 10 (iAdd .i64 1 a))
  have w2 := wrap_u8 b
  simp only [spec_l07Drawn_l4, e1, e2, e3, hv, ha, hb, Option.bind_some, cond_true, Int.toNat_natCast]
  cases iEq v 0 <;> cases iEq v 1 <;> cases iEq v 2 <;> cases iEq v 3 <;> cases iEq v 4 <;> cases iLt 0 walls <;> first
    | exact ⟨_, _, rfl, hc.set _ (by omega) (by omega), hs1'⟩
    | exact ⟨_, _, rfl, hc, hs1'⟩
    | exact ⟨_, _, rfl, hc.set _ w1.1 w1.2, hs2'⟩
    | exact ⟨_, _, rfl, hc.set _ w2.1 w2.2, hs3'⟩
theorem spec_l07Drawn_ok {n : Int} (hn : n ≤ 99999999) {s : DSrc} (hs : SrcOK n s) : ∃ (g : DGrid) (s' : DSrc), spec_l07Drawn s = some ((g, ()), (s', ())) ∧ Fit TyGrid g ∧ gridB g = true ∧ SrcOK (n + 3000) s' ∧ g.1 ≤ 7 ∧ g.2.1 ≤ 7 := by
  obtain ⟨a, s1, ha, a0, _, a1, hs1⟩ := spec_pick_ok (by omega) hs 7 (by omega)
  obtain ⟨b, s2, hb, b0, _, b1, hs2⟩ := spec_pick_ok (n := n + 2) (by omega) hs1 7 (by omega)
  obtain ⟨c, s3, hc, _, _, _, hs3⟩ := spec_pick_ok (n := n + 2 + 2) (by omega) hs2 4 (by omega)
  have a1 := a1 (by omega)
  have b1 := b1 (by omega)
  have e1 : iAdd .i64 1 a = 1 + a := iAdd_eq (by omega) (by omega)
  have e2 : iAdd .i64 1 b = 1 + b := iAdd_eq (by omega) (by omega)
  have e3 := spec_EmptyGrid_ok (a := 1 + a) (b := 1 + b) (by omega) (by omega) (by omega) (by omega)
  have h6 : 0 ≤ (1 + a) * (1 + b) := Int.mul_nonneg (by omega) (by omega)
  have h7 : (1 + a) * (1 + b) ≤ 7 * 7 := Int.mul_le_mul (by omega) (by omega) (by omega) (by omega)
  have hB : Bytes (1 + a) (1 + b) (List.replicate ((1 + a) * (1 + b)).toNat (0 : Int)) := ⟨by rw [List.length_replicate]; omega, fun x hx => by rw [List.eq_of_mem_replicate hx]; omega⟩
  have r := run_inv (f := spec_l07Drawn_l4 ((c, ()), (s3, ()))) (fun x => ∃ (i : Nat) (l : List Int) (q : DSrc), x = ((i : Int), (1 + a, 1 + b, l, ()), q, ()) ∧ i ≤ l.length ∧ Bytes (1 + a) (1 + b) l ∧ SrcOK (n + 6 + 4 * i) q) (fun x => ((1 + a) * (1 + b) - x.1).toNat) (fun y => ∃ (g : DGrid) (s' : DSrc), y = ((g, ()), (s', ())) ∧ Fit TyGrid g ∧ gridB g = true ∧ SrcOK (n + 3000) s' ∧ g.1 ≤ 7 ∧ g.2.1 ≤ 7) (fun x hI => by
    obtain ⟨i, l, q, rfl, hi, hl, hq⟩ := hI
    have hll := hl.1
    by_cases hlt : i < l.length
    · left
      obtain ⟨l', q', h1, h2, h3⟩ := drawn_step (walls := c) (z := (s3, ())) (n := n + 6 + 4 * i) (by omega) hq hl (by omega) hlt
      have hll' := h2.1
      refine ⟨_, h1, ⟨i + 1, l', q', rfl, by omega, h2, h3.mono (by omega)⟩, ?_⟩
      show ((1 + a) * (1 + b) - ((i + 1 : Nat) : Int)).toNat < ((1 + a) * (1 + b) - (i : Int)).toNat
      omega
    · right
      have e1 : iLt (i : Int) (lenI l) = false := iLt_neg (by rw [lenI_eq]; omega)
      refine ⟨_, by simp only [spec_l07Drawn_l4, e1, cond_false]; rfl, (1 + a, 1 + b, l, ()), q, rfl, ?_, ?_, hq.mono (by omega), by show 1 + a ≤ 7; omega, by show 1 + b ≤ 7; omega⟩
      · refine ⟨⟨by show (-9223372036854775808 : Int) ≤ 1 + a; omega, by show 1 + a ≤ (9223372036854775807 : Int); omega⟩, ⟨by show (-9223372036854775808 : Int) ≤ 1 + b; omega, by show 1 + b ≤ (9223372036854775807 : Int); omega⟩, ⟨?_, fun x hx => ?_⟩, trivial⟩
        · show l.length * 1 ≤ 140737488351232
          omega
        · exact ⟨(hl.2 x hx).1, (hl.2 x hx).2⟩
      · have e5 : iMul .i64 (1 + a) (1 + b) = (1 + a) * (1 + b) := iMul_eq (by omega) (by omega)
        simp only [gridB, Bool.and_eq_true, iLe_true, iEq_true, e5, lenI_eq]
        omega) (s := ((0 : Int), (1 + a, 1 + b, List.replicate ((1 + a) * (1 + b)).toNat (0 : Int), ()), s3, ())) ⟨0, _, s3, rfl, Nat.zero_le _, hB, hs3.mono (by omega)⟩
  obtain ⟨y, hy, g, s', rfl, h⟩ := r
  refine ⟨g, s', ?_, h⟩
  simp only [spec_l07Drawn, ha, hb, hc, e1, e2, e3, Option.bind_some]
  exact hy
theorem bytes_fit {l : List Int} (h : Fit (.list (.int .u8)) l) : ∀ x ∈ l, 0 ≤ x ∧ x ≤ 255 := fun x hx => h.2 x hx
theorem p6Grid_ok {l : List Int} (h : Fit (.list (.int .u8)) l) (hl : l.length ≤ 4096) : ∃ g : DGrid, spec_P6Grid l = some ((g, ()), ()) ∧ Fit TyGrid g ∧ gridB g = true ∧ g.1 ≤ 7 ∧ g.2.1 ≤ 7 := by
  obtain ⟨g, s', h1, h2, h3, _, h5, h6⟩ := spec_l07Drawn_ok (n := 0) (by omega) (src_from (bytes_fit h) hl)
  refine ⟨g, ?_, h2, h3, h5, h6⟩
  obtain ⟨g1, g2, g3, ⟨⟩⟩ := g
  simp only [spec_P6Grid, spec_l00From_ok, h1, Option.bind_some]
theorem p6Spot_ok {l : List Int} (h : Fit (.list (.int .u8)) l) (hl : l.length ≤ 4096) {g : DGrid} (hg : gridB g = true) : ∃ s : Vec 2 Int, spec_P6Spot l g = some ((s, ()), ()) ∧ Fit TySpot s ∧ hasB g s = true := by
  obtain ⟨g1, g2, g3, g4, g5⟩ := gridB_true hg
  obtain ⟨a, s1, ha, a0, _, a1, hs1⟩ := spec_pick_ok (n := 0) (by omega) (src_from (bytes_fit h) hl) g.1 (by omega)
  obtain ⟨b, s2, hb, b0, _, b1, hs2⟩ := spec_pick_ok (n := 0 + 2) (by omega) hs1 g.2.1 (by omega)
  have a1 := a1 g1
  have b1 := b1 g3
  have e1 : iWrap .i16 a = a := wrap_i16 (by omega) (by omega)
  have e2 : iWrap .i16 b = b := wrap_i16 (by omega) (by omega)
  have hf : Fit TySpot ((a, b, ()) : Vec 2 Int) := fit_spot (by omega) (by omega) (by omega) (by omega)
  refine ⟨(a, b, ()), ?_, hf, (hasB_iff hf hg).2 ⟨a0, a1, b0, b1⟩⟩
  simp only [spec_P6Spot, spec_l00From_ok, ha, hb, e1, e2, Option.bind_some]
theorem spec_SameSpots_self (l : List (Vec 2 Int)) (hl : l.length ≤ 1000000) : spec_SameSpots l l = some ((true, ()), ()) := by
  simp only [spec_SameSpots, iEq_self, Bool.not_true, cond_false]
  refine all_loop (n := l.length) (fun i hi => ?_) ?_
  · have e1 : iLt (i : Int) (lenI l) = true := iLt_pos (by rw [lenI_eq]; omega)
    have e2 : inB (i : Int) l.length = true := inB_pos hi
    have e3 : iAdd .i64 (i : Int) 1 = ((i + 1 : Nat) : Int) := iAdd_one hi (by omega)
    simp only [spec_SameSpots_l4, e1, e2, e3, iEq_self, Bool.and_true, Bool.not_true, cond_true, cond_false]
  · have e1 : iLt (l.length : Int) (lenI l) = false := iLt_neg (by rw [lenI_eq]; omega)
    simp only [spec_SameSpots_l4, e1, cond_false]
    rfl

/-! ### FnRoutes -/
theorem impl_CostAt_in {g : DGrid} (hg : gridB g = true) {s : Vec 2 Int} (hs : Fit TySpot s) (hh : hasB g s = true) : impl_CostAt g s = some ((cellI g s, 0, ()), ()) := by
  have h0 : spotsCode g [s] = 0 := by simp [spotsCode, hg, hh]
  simp only [impl_CostAt, impl_checkSpots_ok g [s] (by simp), h0, iEq_self, Option.bind_some, Bool.not_true, cond_false, impl_Grid_at_ok, at_inB hs hg hh, cond_true]
  rfl
theorem impl_CostsTo_in {g : DGrid} (hg : gridB g = true) {s : Vec 2 Int} (hs : Fit TySpot s) (hh : hasB g s = true) (hw : wallB g s = false) {out : List Int} (ho : impl_Grid_costsTo g s = some ((out, ()), ())) : impl_CostsTo g s = some ((out, 0, ()), ()) := by
  have h0 : spotsCode g [s] = 0 := by simp [spotsCode, hg, hh]
  simp only [impl_CostsTo, impl_checkSpots_ok g [s] (by simp), h0, iEq_self, Option.bind_some, Bool.not_true, cond_false, impl_Grid_isWall_ok hs hg hh, hw, ho]
theorem impl_RouteCost_iff {g : DGrid} (hf : Fit TyGrid g) (hg : gridB g = true) {l : List (Vec 2 Int)} (hl : ∀ s ∈ l, Fit TySpot s) :
    (impl_RouteCost g l = some ((accC g l (l.length - 1), 0, ()), ()) ∧ RouteP g l) ∨ (impl_RouteCost g l = some ((0, 1, ()), ()) ∧ ¬ RouteP g l) := by
  simp only [impl_RouteCost]
  rcases routeCostG_ok hf hg hl with ⟨h1, h2⟩ | ⟨h1, h2⟩
  · have e2 : impl_ValidRoute g l = some ((true, ()), ()) := by simp only [impl_ValidRoute, impl_ValidGrid_ok, hg, h1, Option.bind_some]; rfl
    simp only [e2, h1, Option.bind_some, Bool.not_true, cond_false]
    exact .inl ⟨trivial, h2⟩
  · have e2 : impl_ValidRoute g l = some ((false, ()), ()) := by simp only [impl_ValidRoute, impl_ValidGrid_ok, hg, h1, Option.bind_some]; rfl
    simp only [e2, Option.bind_some, Bool.not_false, cond_true]
    exact .inr ⟨trivial, h2⟩
theorem Path.route {g : DGrid} (hf : Fit TyGrid g) (hg : gridB g = true) {out : List Int} {a b : Vec 2 Int} {r : List (Vec 2 Int)} (h : Path g out a b r) : RouteP g r :=
  ⟨h.pos, Nat.le_trans (h.short hf hg) (by omega), (h.fit _ (List.getElem_mem h.pos)).2.1, (h.fit _ (List.getElem_mem h.pos)).2.2.1, fun i hi => (h.step i hi).1⟩
theorem Path.cost {g : DGrid} {out : List Int} {a b : Vec 2 Int} {r : List (Vec 2 Int)} (h : Path g out a b r) : ∀ (i : Nat) (hi : i < r.length), accC g r i + valI g out r[i] = valI g out a
  | 0, hi => by rw [h.first]; simp [accC]
  | i + 1, hi => by
    have ih := h.cost i (by omega)
    obtain ⟨_, h2⟩ := h.step i hi
    have e1 : r.getD i ((0, 0, ()) : (Vec 2 Int)) = r[i] := getD_of (by omega)
    have e2 : r.getD (i + 1) ((0, 0, ()) : (Vec 2 Int)) = r[i + 1] := getD_of hi
    simp only [accC, e1, e2]
    omega
section
variable {g : DGrid} (hf : Fit TyGrid g) (hg : gridB g = true)
include hf hg
theorem routes_l33 {goal : Vec 2 Int} {out : List Int} (hL : Lab g goal out) (hc : ∀ u, Fit TySpot u → hasB g u = true → closedAt g out u) {s : Vec 2 Int} (hs : Fit TySpot s) (hh : hasB g s = true) {i : Nat} (hi : atI g s = (i : Int)) (hil : i < out.length) {dx dy : Int} (hx : -1 ≤ dx ∧ dx ≤ 1) (hy : -1 ≤ dy ∧ dy ≤ 1) {z : Int} :
    laws_FnRoutes_l33_2 s.1 s.2.1 (dy, ()) ((g, ()), ()) ((out, z, ()), ()) ((i : Int), ()) (dx, ()) = some (.inl (dx + 1, ())) := by
  obtain ⟨g1, g2, g3, g4, g5⟩ := gridB_true hg
  obtain ⟨s1, s2, s3, s4⟩ := (hasB_iff hs hg).1 hh
  have e1 : iLe dx 1 = true := iLe_pos hx.2
  have x0 : iAdd .i16 s.1 dx = s.1 + dx := iAdd16_eq (by omega) (by omega)
  have x1 : iAdd .i16 s.2.1 dy = s.2.1 + dy := iAdd16_eq (by omega) (by omega)
  have x2 : iAdd .i16 dx 1 = dx + 1 := iAdd16_eq (by omega) (by omega)
  have ft0 : Fit TySpot ((s.1 + dx, s.2.1 + dy, ()) : Vec 2 Int) := fit_spot (by omega) (by omega) (by omega) (by omega)
  have ep : ((s.1, s.2.1, ()) : Vec 2 Int) = s := rfl
  obtain ⟨t, ht⟩ : ∃ t : Vec 2 Int, ((s.1 + dx, s.2.1 + dy, ()) : Vec 2 Int) = t := ⟨_, rfl⟩
  have ft : Fit TySpot t := ht ▸ ft0
  have hp : ∀ u ∈ ([s, t] : List (Vec 2 Int)), Fit TySpot u := fun u hu => by
    rcases List.mem_cons.1 hu with rfl | hu
    · exact hs
    · exact List.mem_singleton.1 hu ▸ ft
  have eg : ((g.1, g.2.1, g.2.2.1, g.2.2.2) : DGrid) = g := rfl
  have gt : List.getD ([s, t] : List (Vec 2 Int)) 1 ((0, 0, ()) : (Vec 2 Int)) = t := rfl
  simp only [laws_FnRoutes_l33_2, e1, x0, x1, x2, ep, ht, eg, gt, cond_true]
  rcases impl_RouteCost_iff hf hg hp with ⟨h1, h2⟩ | ⟨h1, h2⟩
  · have hst : stepB g s t = true := h2.steps 0 (by simp)
    have hw : wallB g s = false := h2.free
    have he : edgeB g s t = true := by rw [edge_eq hf hg hh hw]; exact hst
    obtain ⟨_, hb, _⟩ := edge_has hf hg he
    have ea : accC g ([s, t] : List (Vec 2 Int)) (([s, t] : List (Vec 2 Int)).length - 1) = stepC g s t := by
      show accC g [s, t] 1 = _
      simp only [accC]
      show 0 + stepC g s t = _
      omega
    have et : iAdd .i64 (iMul .i64 (iWrap .i64 (Vec.getD 2 t 1 (0 : Int))) g.1) (iWrap .i64 (Vec.getD 2 t 0 (0 : Int))) = atI g t := rfl
    have ib := out_inB hf hg ft hb hL.len
    have is : inB (i : Int) out.length = true := inB_pos hil
    have qt : List.getD out (atI g t).toNat (0 : Int) = valI g out t := rfl
    have qs : List.getD out i (0 : Int) = valI g out s := by unfold valI; rw [hi]; rfl
    have vt := val_le hf hg hL ft hb
    obtain ⟨c1, c2⟩ := stepC_bounds hf hg s t
    rw [ea] at h1
    simp only [h1, Option.bind_some, iEq_self, Bool.not_true, cond_false, et, ib, is, qt, qs, cond_true, Int.toNat_natCast]
    by_cases h0 : 0 ≤ valI g out t
    · obtain ⟨k1, k2⟩ := hc t ft hb h0 s hs he
      have q3 : iAdd .i64 (stepC g s t) (valI g out t) = stepC g s t + valI g out t := iAdd_eq (by omega) (by omega)
      rw [iLe_pos h0, q3, iLt_neg (by omega : ¬ valI g out s < 0), iLt_neg (by omega : ¬ stepC g s t + valI g out t < valI g out s)]
      simp only [cond_true, cond_false]
    · rw [iLe_neg h0]
      simp only [cond_false]
  · have n1 : iEq 1 0 = false := by decide
    simp only [h1, Option.bind_some, n1, Bool.not_false, cond_true]
theorem routes_l26 {goal : Vec 2 Int} {out : List Int} (hL : Lab g goal out) (hc : ∀ u, Fit TySpot u → hasB g u = true → closedAt g out u) {z : Int} :
    run (laws_FnRoutes_l26_2 ((out, z, ()), ()) ((g, ()), ())) ((0 : Int), ()) = some ((true, ()), ()) := by
  obtain ⟨g1, g2, g3, g4, g5⟩ := gridB_true hg
  have hN := cells_le hf hg
  have hlen := hL.len
  refine all_loop (n := out.length) (fun i hi => ?_) ?_
  · obtain ⟨s, es, hs, hh, hat⟩ := spot_of hf hg (n := i) (by omega)
    have d0 : iEq g.1 0 = false := iEq_neg (by omega)
    have x0 : iWrap .i16 (iRem .i64 (i : Int) g.1) = s.1 := by
      have hm : 0 ≤ (i : Int) % g.1 ∧ (i : Int) % g.1 < g.1 := ⟨Int.emod_nonneg _ (by omega), Int.emod_lt_of_pos _ (by omega)⟩
      have : iRem .i64 (i : Int) g.1 = (i : Int) % g.1 := Int.tmod_eq_emod_of_nonneg (by omega)
      rw [this, wrap_i16 (by omega) (by omega), es]
    have x1 : iWrap .i16 (iQuo .i64 (i : Int) g.1) = s.2.1 := by
      have h0 : 0 ≤ (i : Int) / g.1 := Int.ediv_nonneg (by omega) (by omega)
      have h1 : (i : Int) / g.1 ≤ i := Int.ediv_le_self _ (by omega)
      have : iQuo .i64 (i : Int) g.1 = (i : Int) / g.1 := by
        show IntKind.i64.wrap ((i : Int).tdiv g.1) = _
        rw [Int.tdiv_eq_ediv_of_nonneg (by omega)]
        exact wrap64_id (by omega) (by omega)
      rw [this, wrap_i16 (by omega) (by omega), es]
    have e1 : iLt (i : Int) (lenI out) = true := iLt_pos (by rw [lenI_eq]; omega)
    have e2 : iAdd .i64 (i : Int) 1 = ((i + 1 : Nat) : Int) := iAdd_one hi (by omega)
    have rows : ∀ dy : Int, -1 ≤ dy → dy ≤ 1 → run (laws_FnRoutes_l33_2 s.1 s.2.1 (dy, ()) ((g, ()), ()) ((out, z, ()), ()) ((i : Int), ())) (((-1 : Int) : Int), ()) = some (.inl (dy + 1, ())) := fun dy h1 h2 => by
      have r := run_inv (f := laws_FnRoutes_l33_2 s.1 s.2.1 (dy, ()) ((g, ()), ()) ((out, z, ()), ()) ((i : Int), ())) (fun x => -1 ≤ x.1 ∧ x.1 ≤ 2) (fun x => (2 - x.1).toNat) (fun a => a = .inl (dy + 1, ())) (fun x hI => by
        obtain ⟨dx, ⟨⟩⟩ := x
        simp only at hI
        by_cases hx : dx ≤ 1
        · left
          exact ⟨_, routes_l33 hf hg hL hc hs hh hat hi ⟨hI.1, hx⟩ ⟨h1, h2⟩, ⟨by show -1 ≤ dx + 1; omega, by show dx + 1 ≤ 2; omega⟩, by show (2 - (dx + 1)).toNat < (2 - dx).toNat; omega⟩
        · right
          have n1 : iLe dx 1 = false := iLe_neg hx
          have n2 : iAdd .i16 dy 1 = dy + 1 := iAdd16_eq (by omega) (by omega)
          exact ⟨_, by simp only [laws_FnRoutes_l33_2, n1, n2, cond_false]; rfl, rfl⟩) (s := ((-1 : Int), ())) ⟨by decide, by decide⟩
      obtain ⟨a, ha, rfl⟩ := r
      exact ha
    have r := run_inv (f := laws_FnRoutes_l30_2 ((i : Int), ()) s.1 s.2.1 ((g, ()), ()) ((out, z, ()), ())) (fun x => -1 ≤ x.1 ∧ x.1 ≤ 2) (fun x => (2 - x.1).toNat) (fun a => a = .inl (((i + 1 : Nat) : Int), ())) (fun x hI => by
      obtain ⟨dy, ⟨⟩⟩ := x
      simp only at hI
      by_cases hx : dy ≤ 1
      · left
        have n1 : iLe dy 1 = true := iLe_pos hx
        refine ⟨(dy + 1, ()), ?_, ⟨by show -1 ≤ dy + 1; omega, by show dy + 1 ≤ 2; omega⟩, by show (2 - (dy + 1)).toNat < (2 - dy).toNat; omega⟩
        simp only [laws_FnRoutes_l30_2, n1, cond_true]
        exact rows dy hI.1 hx
      · right
        have n1 : iLe dy 1 = false := iLe_neg hx
        exact ⟨_, by simp only [laws_FnRoutes_l30_2, n1, e2, cond_false]; rfl, rfl⟩) (s := ((-1 : Int), ())) ⟨by decide, by decide⟩
    obtain ⟨a, ha, rfl⟩ := r
    simp only [laws_FnRoutes_l26_2, e1, d0, x0, x1, cond_true, cond_false]
    exact ha
  · have e1 : iLt (out.length : Int) (lenI out) = false := iLt_neg (by rw [lenI_eq]; omega)
    simp only [laws_FnRoutes_l26_2, e1, cond_false]
    rfl
end

theorem laws_FnRoutes_plain (x : List Int) (hx : Fit (.list (.int .u8)) x) (y : List Int) (hy : Fit (.list (.int .u8)) y) : ∃ o, laws_FnRoutes x y = some ((true, ()), o) := by
  simp only [laws_FnRoutes, laws_f6big_ok, Option.bind_some]
  by_cases hlx : 4096 < lenI x
  · rw [iLt_pos hlx]; exact ⟨_, rfl⟩
  by_cases hly : 4096 < lenI y
  · rw [iLt_neg hlx, iLt_pos hly]; exact ⟨_, rfl⟩
  rw [iLt_neg hlx, iLt_neg hly]
  simp only [cond_false]
  rw [lenI_eq] at hlx hly
  obtain ⟨g, h1, hf, hg, _, _⟩ := p6Grid_ok hx (by omega)
  obtain ⟨a, h2, fa, ha⟩ := p6Spot_ok hy (by omega) hg
  obtain ⟨b, h3, fb, hb⟩ := p6Spot_ok hx (by omega) hg
  obtain ⟨w, h4, h5, hlen, hfit, hcase⟩ := bestRoute_ok g hf a b fa fb
  have hcase := hcase hg ha hb
  have ca := impl_CostAt_in hg fa ha
  have cb := impl_CostAt_in hg fb hb
  have same := spec_SameSpots_self w.1 (by omega)
  have wa : iEq (cellI g a) 255 = wallB g a := rfl
  have wb : iEq (cellI g b) 255 = wallB g b := rfl
  have eg : ((g.1, g.2.1, g.2.2.1, g.2.2.2) : DGrid) = g := rfl
  have n40 : iEq 4 0 = false := by decide
  simp only [h1, h2, h3, h4, h5, ca, cb, eg, same, wa, wb, iEq_self, Option.bind_some, Bool.not_true, cond_false]
  rcases hcase with ⟨hcode, hwall⟩ | ⟨hwa, hwb, out, ho, L, hc, hrest⟩
  · rw [hcode]
    have n44 : iEq 4 4 = true := by decide
    simp only [n44]
    rcases hwall with hw | hw
    · rw [hw]
      exact ⟨_, rfl⟩
    · rw [hw]
      cases wallB g a <;> exact ⟨_, rfl⟩
  · have k1 := impl_CostsTo_in hg fb hb hwb ho
    obtain ⟨g1, g2, g3, g4, g5⟩ := gridB_true hg
    have hN := cells_le hf hg
    have hmul : iMul .i64 g.1 g.2.1 = g.1 * g.2.1 := iMul_eq (by omega) (by omega)
    have hlo : iEq (lenI out) (iMul .i64 g.1 g.2.1) = true := iEq_pos (by rw [lenI_eq, hmul, L.len, g5])
    have eat : iAdd .i64 (iMul .i64 (iWrap .i64 (Vec.getD 2 a 1 (0 : Int))) g.1) (iWrap .i64 (Vec.getD 2 a 0 (0 : Int))) = atI g a := rfl
    have ib := out_inB hf hg fa ha L.len
    have qa : List.getD out (atI g a).toNat (0 : Int) = valI g out a := rfl
    have va := val_le hf hg L fa ha
    rw [hwa, hwb]
    simp only [cond_false, k1, Option.bind_some, iEq_self, Bool.not_true, hlo, eat, ib, qa, cond_true]
    rcases hrest with ⟨hcode, hv⟩ | ⟨hcode, hcost, hp⟩
    · rw [hcode]
      have n1 : iEq 6 4 = false := by decide
      have n2 : iEq 6 0 = false := by decide
      have n3 : iEq 6 6 = true := by decide
      have n4 : iEq (valI g out a) (-1) = true := iEq_pos (by omega)
      simp only [n1, n2, n3, n4, bEq_self, Bool.not_true, Bool.not_false, cond_false, cond_true]
      exact ⟨(), trivial⟩
    · rw [hcode]
      have n1 : iEq 0 4 = false := by decide
      have n2 : iEq 0 0 = true := by decide
      have hpos := hp.pos
      have hsh := hp.short hf hg
      have hroute := hp.route hf hg
      have hsum : accC g w.1 (w.1.length - 1) = w.2.1 := by
        have := hp.cost (w.1.length - 1) (by omega)
        rw [hp.last, L.goal] at this
        omega
      have rc : impl_RouteCost g w.1 = some ((w.2.1, 0, ()), ()) := by
        rcases impl_RouteCost_iff hf hg hfit with ⟨h, _⟩ | ⟨_, h⟩
        · rw [h, hsum]
        · exact absurd hroute h
      have vr : impl_ValidRoute g w.1 = some ((true, ()), ()) := by
        rcases validRoute_iff hf hg hfit with ⟨h, _⟩ | ⟨_, h⟩
        · exact h
        · exact absurd hroute h
      have i0 : inB 0 w.1.length = true := inB_pos (i := 0) hpos
      have e0 : List.getD w.1 0 ((0, 0, ()) : (Vec 2 Int)) = a := (getD_of hpos).trans hp.first
      have el : iSub .i64 (lenI w.1) 1 = ((w.1.length - 1 : Nat) : Int) := by rw [lenI_eq, iSub_eq (by omega) (by omega)]; omega
      have il : inB ((w.1.length - 1 : Nat) : Int) w.1.length = true := inB_pos (by omega)
      have e1 : List.getD w.1 (w.1.length - 1) ((0, 0, ()) : (Vec 2 Int)) = b := (getD_of (by omega)).trans hp.last
      have sa := (spot_eq hf hg (a := a) (b := a)).2 rfl
      have sb := (spot_eq hf hg (a := b) (b := b)).2 rfl
      have ec : iEq (valI g out a) w.2.1 = true := iEq_pos hcost.symm
      have fin := routes_l26 hf hg L hc (z := 0)
      simp only [n1, n2, bEq_self, rc, vr, i0, e0, el, il, e1, sa, sb, ec, iEq_self, Int.toNat_natCast, Option.bind_some, Bool.not_true, Bool.not_false, cond_false, cond_true]
      exact ⟨_, fin⟩
end Go.Proofs.Ytioniijhdkkieaa
