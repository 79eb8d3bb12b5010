/- Functions of the program and of the reference in plain terms. -/
import Derived.Test.YtdmaamakckochaaGreatDoorP11
namespace Go.Proofs.YtdmaamakckochaaGreatDoor
open Go Go.Tm
set_option linter.unusedVariables false
set_option linter.unusedSimpArgs false
set_option linter.unusedSectionVars false
/-! ### walls that grow -/
def setWall (w y x : Int) (l : List Int) : List Int := l.set (y * w + x).toNat 255
def growRow (w y lo hi : Int) (l : List Int) : List Int := loopI (fun x l => setWall w y x l) lo (hi + 1 - lo).toNat l
def growRect (w xlo xhi ylo yhi : Int) (l : List Int) : List Int := loopI (fun y l => growRow w y xlo xhi l) ylo (yhi + 1 - ylo).toNat l
def growAt (g : DGrid) (n x y : Int) (l : List Int) : List Int := bif iEq (g.2.2.1.getD (y * g.1 + x).toNat 0) 255 then growRect g.1 (max 0 (x - n)) (min (g.1 - 1) (x + n)) (max 0 (y - n)) (min (g.2.1 - 1) (y + n)) l else l
def withL (g : DGrid) (l : List Int) : DGrid := (g.1, g.2.1, l, ())

section
variable {g : DGrid} (hg : gridB g = true) {n : Int} (hn0 : 0 ≤ n) (hn : n ≤ 24)
include hg hn0 hn

/-- a place of the grid -/
theorem place {x y : Int} (hx0 : 0 ≤ x) (hx : x < g.1) (hy0 : 0 ≤ y) (hy : y < g.2.1) : iAdd .i64 (iMul .i64 y g.1) x = y * g.1 + x ∧ inB (y * g.1 + x) g.2.2.1.length = true := by
  obtain ⟨g1, g2, g3, g4, g5⟩ := gridB_true hg
  obtain ⟨c1, c2⟩ := at_lt hx0 hx hy0 hy g2
  have h7 : g.1 * g.2.1 ≤ 24 * 24 := Int.mul_le_mul g2 g4 (by omega) (by omega)
  have h8 : 0 ≤ y * g.1 := Int.mul_nonneg hy0 (by omega)
  rw [iMul_eq (by omega) (by omega), iAdd_eq (by omega) (by omega)]
  exact ⟨rfl, inB_int c1 (by omega)⟩

theorem impl_row {x y : Int} {s : Vec 2 Int} (hs : Fit TySpot s) (ex : s.1 = x) (hx0 : 0 ≤ x) (hx : x < g.1) (hy0 : 0 ≤ y) (hy : y < g.2.1) {l : List Int} (hl : l.length = g.2.2.1.length) (z : Int × DGrid × Unit) (ez : z.1 = y) :
    run (impl_GrowWalls_l14 g s n z) (max 0 (x - n), withL g l, ()) = some (.inl (iAdd .i64 z.1 1, withL g (growRow g.1 y (max 0 (x - n)) (min (g.1 - 1) (x + n)) l), ())) ∧ (growRow g.1 y (max 0 (x - n)) (min (g.1 - 1) (x + n)) l).length = g.2.2.1.length := by
  obtain ⟨g1, g2, g3, g4, g5⟩ := gridB_true hg
  obtain ⟨⟨a1, a2⟩, a3, a4⟩ := spot_fit hs
  have hw : iWrap .i64 (Vec.getD 2 s 0 (0 : Int)) = x := by
    show iWrap .i64 s.1 = x
    rw [wrap_i64 (by omega) (by omega), ex]
  have ht : iMin (iSub .i64 g.1 1) (iAdd .i64 x n) = min (g.1 - 1) (x + n) := by
    rw [iSub_eq (by omega) (by omega), iAdd_eq (by omega) (by omega), iMin_eq]
  exact run_count (f := impl_GrowWalls_l14 g s n z) (emb := fun i l => (i, withL g l, ())) (step := fun x l => setWall g.1 y x l) (fin := fun l => .inl (iAdd .i64 z.1 1, withL g l, ())) (fun l => l.length = g.2.2.1.length) (max 0 (x - n)) (min (g.1 - 1) (x + n) + 1)
    (fun i l _ _ h => by simp only [setWall, List.length_set]; exact h)
    (fun i l h1 h2 h => by
      obtain ⟨p1, p2⟩ := place hg hn0 hn (x := i) (y := y) (by omega) (by omega) hy0 hy
      have e1 : iLe i (min (g.1 - 1) (x + n)) = true := iLe_pos (by omega)
      have e3 : iAdd .i64 i 1 = i + 1 := iAdd_eq (by omega) (by omega)
      simp only [impl_GrowWalls_l14, hw, ht, e1, ez, p1, withL, h, p2, e3, cond_true]
      rfl)
    (fun i l h1 h2 h => by
      have e1 : iLe i (min (g.1 - 1) (x + n)) = false := iLe_neg (by omega)
      simp only [impl_GrowWalls_l14, hw, ht, e1, cond_false, withL]
      rfl) hl
theorem spec_row {x y : Int} {z1 z2 : Int × DGrid × Unit} (e2 : z2.1 = y) (e1 : z1.1 = x) (hx0 : 0 ≤ x) (hx : x < g.1) (hy0 : 0 ≤ y) (hy : y < g.2.1) {l : List Int} (hl : l.length = g.2.2.1.length) :
    run (spec_GrowWalls_l17 g z1 n z2) (max 0 (x - n), withL g l, ()) = some (.inl (iAdd .i64 z2.1 1, withL g (growRow g.1 y (max 0 (x - n)) (min (g.1 - 1) (x + n)) l), ())) := by
  obtain ⟨g1, g2, g3, g4, g5⟩ := gridB_true hg
  have ht : spec_l00Min (iSub .i64 g.1 1) (iAdd .i64 x n) = some ((min (g.1 - 1) (x + n), ()), ()) := by
    rw [iSub_eq (by omega) (by omega), iAdd_eq (by omega) (by omega), spec_l00Min_ok]
  exact (run_count (f := spec_GrowWalls_l17 g z1 n z2) (emb := fun i l => (i, withL g l, ())) (step := fun x l => setWall g.1 y x l) (fin := fun l => .inl (iAdd .i64 z2.1 1, withL g l, ())) (fun l => l.length = g.2.2.1.length) (max 0 (x - n)) (min (g.1 - 1) (x + n) + 1)
    (fun i l _ _ h => by simp only [setWall, List.length_set]; exact h)
    (fun i l h1 h2 h => by
      obtain ⟨p1, p2⟩ := place hg hn0 hn (x := i) (y := y) (by omega) (by omega) hy0 hy
      have q1 : iLe i (min (g.1 - 1) (x + n)) = true := iLe_pos (by omega)
      have e3 : iAdd .i64 i 1 = i + 1 := iAdd_eq (by omega) (by omega)
      simp only [spec_GrowWalls_l17, e1, ht, q1, e2, p1, withL, h, p2, e3, cond_true, Option.bind_some]
      rfl)
    (fun i l h1 h2 h => by
      have q1 : iLe i (min (g.1 - 1) (x + n)) = false := iLe_neg (by omega)
      simp only [spec_GrowWalls_l17, e1, ht, q1, cond_false, withL, Option.bind_some]
      rfl) hl).1
theorem impl_rect {x y : Int} {s : Vec 2 Int} (hs : Fit TySpot s) (ex : s.1 = x) (ey : s.2.1 = y) (hx0 : 0 ≤ x) (hx : x < g.1) (hy0 : 0 ≤ y) (hy : y < g.2.1) {l : List Int} (hl : l.length = g.2.2.1.length) (z : Int × DGrid × Unit) :
    run (impl_GrowWalls_l11 g s n z) (max 0 (y - n), withL g l, ()) = some (.inl (iAdd .i64 z.1 1, withL g (growRect g.1 (max 0 (x - n)) (min (g.1 - 1) (x + n)) (max 0 (y - n)) (min (g.2.1 - 1) (y + n)) l), ())) ∧
      (growRect g.1 (max 0 (x - n)) (min (g.1 - 1) (x + n)) (max 0 (y - n)) (min (g.2.1 - 1) (y + n)) l).length = g.2.2.1.length := by
  obtain ⟨g1, g2, g3, g4, g5⟩ := gridB_true hg
  obtain ⟨⟨a1, a2⟩, a3, a4⟩ := spot_fit hs
  have hw1 : iWrap .i64 (Vec.getD 2 s 0 (0 : Int)) = x := by
    show iWrap .i64 s.1 = x
    rw [wrap_i64 (by omega) (by omega), ex]
  have hw2 : iWrap .i64 (Vec.getD 2 s 1 (0 : Int)) = y := by
    show iWrap .i64 s.2.1 = y
    rw [wrap_i64 (by omega) (by omega), ey]
  have ht : iMin (iSub .i64 g.2.1 1) (iAdd .i64 y n) = min (g.2.1 - 1) (y + n) := by
    rw [iSub_eq (by omega) (by omega), iAdd_eq (by omega) (by omega), iMin_eq]
  have hm : iMax 0 (iSub .i64 x n) = max 0 (x - n) := by rw [iSub_eq (by omega) (by omega), iMax_eq]
  exact run_count (f := impl_GrowWalls_l11 g s n z) (emb := fun i l => (i, withL g l, ())) (step := fun y l => growRow g.1 y (max 0 (x - n)) (min (g.1 - 1) (x + n)) l) (fin := fun l => .inl (iAdd .i64 z.1 1, withL g l, ())) (fun l => l.length = g.2.2.1.length) (max 0 (y - n)) (min (g.2.1 - 1) (y + n) + 1)
    (fun i l h1 h2 h => (impl_row hg hn0 hn hs ex hx0 hx (y := i) (by omega) (by omega) h (i, withL g l, ()) rfl).2)
    (fun i l h1 h2 h => by
      have e1 : iLe i (min (g.2.1 - 1) (y + n)) = true := iLe_pos (by omega)
      have e3 : iAdd .i64 i 1 = i + 1 := iAdd_eq (by omega) (by omega)
      have r := (impl_row hg hn0 hn hs ex hx0 hx (y := i) (by omega) (by omega) h (i, withL g l, ()) rfl).1
      simp only [e3] at r
      simp only [impl_GrowWalls_l11, hw1, hw2, ht, e1, hm, cond_true]
      exact r)
    (fun i l h1 h2 h => by
      have e1 : iLe i (min (g.2.1 - 1) (y + n)) = false := iLe_neg (by omega)
      simp only [impl_GrowWalls_l11, hw2, ht, e1, cond_false, withL]
      rfl) hl
theorem spec_rect {x y : Int} {z1 z2 : Int × DGrid × Unit} (e2 : z2.1 = x) (e1 : z1.1 = y) (hx0 : 0 ≤ x) (hx : x < g.1) (hy0 : 0 ≤ y) (hy : y < g.2.1) {l : List Int} (hl : l.length = g.2.2.1.length) (hlen : ∀ (y : Int), 0 ≤ y → y < g.2.1 → ∀ l : List Int, l.length = g.2.2.1.length → (growRow g.1 y (max 0 (x - n)) (min (g.1 - 1) (x + n)) l).length = g.2.2.1.length) :
    run (spec_GrowWalls_l14 g z1 n z2) (max 0 (y - n), withL g l, ()) = some (.inl (iAdd .i64 z2.1 1, withL g (growRect g.1 (max 0 (x - n)) (min (g.1 - 1) (x + n)) (max 0 (y - n)) (min (g.2.1 - 1) (y + n)) l), ())) := by
  obtain ⟨g1, g2, g3, g4, g5⟩ := gridB_true hg
  have ht : spec_l00Min (iSub .i64 g.2.1 1) (iAdd .i64 y n) = some ((min (g.2.1 - 1) (y + n), ()), ()) := by
    rw [iSub_eq (by omega) (by omega), iAdd_eq (by omega) (by omega), spec_l00Min_ok]
  have hm : spec_l00Max (0 : Int) (iSub .i64 x n) = some ((max 0 (x - n), ()), ()) := by rw [iSub_eq (by omega) (by omega), l00Max_ok]
  exact (run_count (f := spec_GrowWalls_l14 g z1 n z2) (emb := fun i l => (i, withL g l, ())) (step := fun y l => growRow g.1 y (max 0 (x - n)) (min (g.1 - 1) (x + n)) l) (fin := fun l => .inl (iAdd .i64 z2.1 1, withL g l, ())) (fun l => l.length = g.2.2.1.length) (max 0 (y - n)) (min (g.2.1 - 1) (y + n) + 1)
    (fun i l h1 h2 h => hlen i (by omega) (by omega) l h)
    (fun i l h1 h2 h => by
      have q1 : iLe i (min (g.2.1 - 1) (y + n)) = true := iLe_pos (by omega)
      have e3 : iAdd .i64 i 1 = i + 1 := iAdd_eq (by omega) (by omega)
      have r := spec_row hg hn0 hn (z1 := z2) (z2 := (i, withL g l, ())) rfl e2 hx0 hx (y := i) (by omega) (by omega) h
      simp only [e3] at r
      simp only [spec_GrowWalls_l14, e1, e2, ht, q1, hm, cond_true, Option.bind_some]
      exact r)
    (fun i l h1 h2 h => by
      have q1 : iLe i (min (g.2.1 - 1) (y + n)) = false := iLe_neg (by omega)
      simp only [spec_GrowWalls_l14, e1, ht, q1, cond_false, withL, Option.bind_some]
      rfl) hl).1

/-! ### all spots -/
theorem cell_wall {x y : Int} (hx0 : 0 ≤ x) (hx : x < g.1) (hy0 : 0 ≤ y) (hy : y < g.2.1) {s : Vec 2 Int} (ex : s.1 = x) (ey : s.2.1 = y) : impl_Grid_isWall g s = some ((iEq (g.2.2.1.getD (y * g.1 + x).toNat 0) 255, ()), ()) := by
  obtain ⟨g1, g2, g3, g4, g5⟩ := gridB_true hg
  obtain ⟨p1, p2⟩ := place hg hn0 hn hx0 hx hy0 hy
  have e : atI g s = y * g.1 + x := by
    simp only [atI, Vec.getD, ex, ey]
    rw [wrap_i64 (by omega) (by omega), wrap_i64 (by omega) (by omega), p1]
  simp only [impl_Grid_isWall, impl_Grid_at_ok, Option.bind_some, e, p2, cond_true]

def spotE (x y : Int) : Vec 2 Int := (x, y, ())
def spotRow (w y : Int) (l : List (Vec 2 Int)) : List (Vec 2 Int) := loopI (fun x l => l ++ [spotE x y]) 0 w.toNat l
def spotsL (w h : Int) : List (Vec 2 Int) := loopI (fun y l => spotRow w y l) 0 h.toNat []

theorem spots_row {y : Int} (hy0 : 0 ≤ y) (hy : y < g.2.1) {l : List (Vec 2 Int)} (hl : (l.length : Int) = y * g.1) (z : List (Vec 2 Int) × Int × Unit) (ez : z.2.1 = y) :
    run (impl_Grid_spots_l6 g z) (l, (0 : Int), ()) = some (.inl (spotRow g.1 y l, iAdd .i64 y 1, ())) ∧ ((spotRow g.1 y l).length : Int) = (y + 1) * g.1 := by
  obtain ⟨g1, g2, g3, g4, g5⟩ := gridB_true hg
  have h7 : y * g.1 ≤ 24 * 24 := Int.mul_le_mul (by omega) g2 (by omega) (by omega)
  have r := run_count_at (f := impl_Grid_spots_l6 g z) (emb := fun i l => (l, i, ())) (step := fun x l => l ++ [spotE x y]) (fin := fun l => .inl (l, iAdd .i64 y 1, ())) (fun i l => (l.length : Int) = y * g.1 + i) 0 g.1
    (fun i l h1 h2 h => by simp only [List.length_append, List.length_singleton]; omega)
    (fun i l h1 h2 h => by
      have e1 : iLt i g.1 = true := iLt_pos h2
      have e2 : room (l.length + 1) 4 = true := room_pos (by omega)
      have e3 : iAdd .i64 i 1 = i + 1 := iAdd_eq (by omega) (by omega)
      have e4 : iWrap .i16 i = i := wrap16 h1 (by omega)
      have e5 : iWrap .i16 y = y := wrap16 hy0 (by omega)
      simp only [impl_Grid_spots_l6, e1, e2, e3, e4, ez, e5, cond_true]
      rfl)
    (fun i l h1 h2 h => by
      have e1 : iLt i g.1 = false := iLt_neg (by omega)
      simp only [impl_Grid_spots_l6, e1, cond_false, ez]
      rfl) (by omega) (s := l) (by omega)
  rw [Int.sub_zero] at r
  refine ⟨r.1, ?_⟩
  have := r.2
  rw [Int.add_mul, Int.one_mul]
  exact this
theorem spots_ok : impl_Grid_spots g = some ((spotsL g.1 g.2.1, ()), ()) ∧ ((spotsL g.1 g.2.1).length : Int) = g.2.1 * g.1 := by
  obtain ⟨g1, g2, g3, g4, g5⟩ := gridB_true hg
  have r := run_count_at (f := impl_Grid_spots_l3 g) (emb := fun i l => (l, i, ())) (step := fun y l => spotRow g.1 y l) (fin := fun l => ((l, ()), ())) (fun i l => (l.length : Int) = i * g.1) 0 g.2.1
    (fun i l h1 h2 h => (spots_row hg hn0 hn h1 h2 h (l, i, ()) rfl).2)
    (fun i l h1 h2 h => by
      have e1 : iLt i g.2.1 = true := iLt_pos h2
      have e3 : iAdd .i64 i 1 = i + 1 := iAdd_eq (by omega) (by omega)
      have q := (spots_row hg hn0 hn h1 h2 h (l, i, ()) rfl).1
      rw [e3] at q
      simp only [impl_Grid_spots_l3, e1, cond_true]
      exact q)
    (fun i l h1 h2 h => by
      have e1 : iLt i g.2.1 = false := iLt_neg (by omega)
      simp only [impl_Grid_spots_l3, e1, cond_false]
      rfl) (by omega) (s := []) (by simp)
  rw [Int.sub_zero] at r
  exact r
/-- the spots of the list are those of the grid -/
theorem spotsL_mem : ∀ s ∈ spotsL g.1 g.2.1, 0 ≤ s.1 ∧ s.1 < g.1 ∧ 0 ≤ s.2.1 ∧ s.2.1 < g.2.1 := by
  obtain ⟨g1, g2, g3, g4, g5⟩ := gridB_true hg
  have row : ∀ (y : Int), 0 ≤ y → y < g.2.1 → ∀ (n : Nat) (i : Int) (l : List (Vec 2 Int)), 0 ≤ i → i + n ≤ g.1 → (∀ s ∈ l, 0 ≤ s.1 ∧ s.1 < g.1 ∧ 0 ≤ s.2.1 ∧ s.2.1 < g.2.1) → ∀ s ∈ loopI (fun x l => l ++ [spotE x y]) i n l, 0 ≤ s.1 ∧ s.1 < g.1 ∧ 0 ≤ s.2.1 ∧ s.2.1 < g.2.1 := by
    intro y hy0 hy n
    induction n with
    | zero => intro i l _ _ h; exact h
    | succ n ih =>
      intro i l hi hn h
      refine ih (i + 1) _ (by omega) (by omega) fun s hs => ?_
      rcases List.mem_append.1 hs with hs | hs
      · exact h s hs
      · rw [List.mem_singleton] at hs
        subst hs
        exact ⟨hi, by show i < g.1; omega, hy0, hy⟩
  have all : ∀ (n : Nat) (i : Int) (l : List (Vec 2 Int)), 0 ≤ i → i + n ≤ g.2.1 → (∀ s ∈ l, 0 ≤ s.1 ∧ s.1 < g.1 ∧ 0 ≤ s.2.1 ∧ s.2.1 < g.2.1) → ∀ s ∈ loopI (fun y l => spotRow g.1 y l) i n l, 0 ≤ s.1 ∧ s.1 < g.1 ∧ 0 ≤ s.2.1 ∧ s.2.1 < g.2.1 := by
    intro n
    induction n with
    | zero => intro i l _ _ h; exact h
    | succ n ih =>
      intro i l hi hn h
      exact ih (i + 1) _ (by omega) (by omega) (row i hi (by omega) g.1.toNat 0 l (by omega) (by omega) h)
  exact all g.2.1.toNat 0 [] (by omega) (by omega) (by simp)

def growAll (g : DGrid) (n : Int) (l : List Int) : List Int := loopI (fun y l => loopI (fun x l => growAt g n x y l) 0 g.1.toNat l) 0 g.2.1.toNat l

theorem growAt_length {x y : Int} (hx0 : 0 ≤ x) (hx : x < g.1) (hy0 : 0 ≤ y) (hy : y < g.2.1) {l : List Int} (hl : l.length = g.2.2.1.length) : (growAt g n x y l).length = g.2.2.1.length := by
  obtain ⟨g1, g2, g3, g4, g5⟩ := gridB_true hg
  unfold growAt
  cases iEq (g.2.2.1.getD (y * g.1 + x).toNat 0) 255
  · exact hl
  · exact (impl_rect hg hn0 hn (s := (x, y, ())) ⟨(⟨by show (-32768 : Int) ≤ x; omega, by show x ≤ (32767 : Int); omega⟩ : Fit (.int .i16) x), (⟨by show (-32768 : Int) ≤ y; omega, by show y ≤ (32767 : Int); omega⟩ : Fit (.int .i16) y), trivial⟩ rfl rfl hx0 hx hy0 hy hl (0, withL g l, ())).2
theorem spot_is_fit {s : Vec 2 Int} (h : 0 ≤ s.1 ∧ s.1 < g.1 ∧ 0 ≤ s.2.1 ∧ s.2.1 < g.2.1) : Fit TySpot s := by
  obtain ⟨g1, g2, g3, g4, g5⟩ := gridB_true hg
  exact ⟨fit_i16 (by omega) (by omega), fit_i16 (by omega) (by omega), trivial⟩
theorem impl_all {l : List Int} (hl : l.length = g.2.2.1.length) : run (impl_GrowWalls_l7 ((spotsL g.1 g.2.1, ()), ()) g n) ((0 : Int), withL g l, ()) = some ((withL g ((spotsL g.1 g.2.1).foldl (fun l s => growAt g n s.1 s.2.1 l) l), (0 : Int), ()), ()) ∧
    ((spotsL g.1 g.2.1).foldl (fun l s => growAt g n s.1 s.2.1 l) l).length = g.2.2.1.length := by
  obtain ⟨g1, g2, g3, g4, g5⟩ := gridB_true hg
  have hlen := (spots_ok hg hn0 hn).2
  have hmem := spotsL_mem hg hn0 hn
  have h7 : g.2.1 * g.1 ≤ 24 * 24 := Int.mul_le_mul g4 g2 (by omega) (by omega)
  have key : ∀ (r q : List (Vec 2 Int)) (l : List Int), q ++ r = spotsL g.1 g.2.1 → l.length = g.2.2.1.length → run (impl_GrowWalls_l7 ((spotsL g.1 g.2.1, ()), ()) g n) ((q.length : Int), withL g l, ()) = some ((withL g (r.foldl (fun l s => growAt g n s.1 s.2.1 l) l), (0 : Int), ()), ()) ∧
      (r.foldl (fun l s => growAt g n s.1 s.2.1 l) l).length = g.2.2.1.length := by
    intro r
    induction r with
    | nil =>
      intro q l hq hl
      rw [List.append_nil] at hq
      subst hq
      refine ⟨run_done ?_, hl⟩
      have e1 : iLt ((spotsL g.1 g.2.1).length : Int) (lenI (spotsL g.1 g.2.1)) = false := iLt_neg (by rw [lenI_eq]; omega)
      simp only [impl_GrowWalls_l7, e1, cond_false]
      rfl
    | cons s r ih =>
      intro q l hq hl
      have hlt : q.length < (spotsL g.1 g.2.1).length := by rw [← hq]; simp
      have hx : (spotsL g.1 g.2.1)[q.length] = s := by simp [← hq]
      have hs := hmem s (hx ▸ List.getElem_mem hlt)
      have e1 : iLt (q.length : Int) (lenI (spotsL g.1 g.2.1)) = true := iLt_pos (by rw [lenI_eq]; omega)
      have e2 : inB (q.length : Int) (spotsL g.1 g.2.1).length = true := inB_pos hlt
      have e4 : (spotsL g.1 g.2.1).getD q.length ((0, 0, ()) : (Vec 2 Int)) = s := (getD_of hlt).trans hx
      have e5 : iAdd .i64 (q.length : Int) 1 = ((q ++ [s]).length : Int) := by rw [iAdd_eq (by omega) (by omega)]; simp
      have ew := cell_wall hg hn0 hn hs.1 hs.2.1 hs.2.2.1 hs.2.2.2 (s := s) rfl rfl
      have er := impl_rect hg hn0 hn (spot_is_fit hg hn0 hn hs) rfl rfl hs.1 hs.2.1 hs.2.2.1 hs.2.2.2 hl ((q.length : Int), withL g l, ())
      have hm : iMax 0 (iSub .i64 (iWrap .i64 (Vec.getD 2 s 1 (0 : Int))) n) = max 0 (s.2.1 - n) := by
        simp only [Vec.getD]
        rw [wrap_i64 (by omega) (by omega), iSub_eq (by omega) (by omega), iMax_eq]
      have estep : impl_GrowWalls_l7 ((spotsL g.1 g.2.1, ()), ()) g n ((q.length : Int), withL g l, ()) = some (.inl (((q ++ [s]).length : Int), withL g (growAt g n s.1 s.2.1 l), ())) := by
        simp only [impl_GrowWalls_l7, e1, e2, e4, Int.toNat_natCast, ew, Option.bind_some, cond_true, hm, growAt]
        rw [e5] at er
        cases iEq (g.2.2.1.getD (s.2.1 * g.1 + s.1).toNat 0) 255
        · simp only [Bool.not_false, cond_true, cond_false, e5, withL]
        · simp only [Bool.not_true, cond_true, cond_false]
          exact er.1
      rw [run_step estep]
      exact ih (q ++ [s]) _ (by rw [← hq]; simp) (growAt_length hg hn0 hn hs.1 hs.2.1 hs.2.2.1 hs.2.2.2 hl)
  exact key _ [] l rfl hl
theorem fold_all (l : List Int) : (spotsL g.1 g.2.1).foldl (fun l s => growAt g n s.1 s.2.1 l) l = growAll g n l := by
  unfold spotsL growAll
  exact foldl_loopI g.2.1.toNat 0 [] l fun y l2 s _ _ => foldl_loopI g.1.toNat 0 l2 s fun x l3 s _ _ => by simp only [List.foldl_append, List.foldl_cons, List.foldl_nil]; rfl

theorem spec_all {l : List Int} (hl : l.length = g.2.2.1.length) : run (spec_GrowWalls_l7 g n) ((0 : Int), withL g l, ()) = some ((withL g (growAll g n l), (0 : Int), ()), ()) := by
  obtain ⟨g1, g2, g3, g4, g5⟩ := gridB_true hg
  have row : ∀ (y : Int) (l : List Int), 0 ≤ y → y < g.2.1 → l.length = g.2.2.1.length → run (spec_GrowWalls_l10 g (y, withL g l, ()) n) ((0 : Int), withL g l, ()) = some (.inl (y + 1, withL g (loopI (fun x l => growAt g n x y l) 0 g.1.toNat l), ())) ∧ (loopI (fun x l => growAt g n x y l) 0 g.1.toNat l).length = g.2.2.1.length := by
    intro y l hy0 hy hl
    have r := run_count (f := spec_GrowWalls_l10 g (y, withL g l, ()) n) (emb := fun i l => (i, withL g l, ())) (step := fun x l => growAt g n x y l) (fin := fun l => .inl (y + 1, withL g l, ())) (fun l => l.length = g.2.2.1.length) 0 g.1
      (fun i l h1 h2 h => growAt_length hg hn0 hn h1 h2 hy0 hy h)
      (fun i l2 h1 h2 h => by
        have e1 : iLt i g.1 = true := iLt_pos h2
        obtain ⟨p1, p2⟩ := place hg hn0 hn h1 h2 hy0 hy
        have e3 : iAdd .i64 i 1 = i + 1 := iAdd_eq (by omega) (by omega)
        have hm : spec_l00Max (0 : Int) (iSub .i64 y n) = some ((max 0 (y - n), ()), ()) := by rw [iSub_eq (by omega) (by omega), l00Max_ok]
        have er := spec_rect hg hn0 hn (z1 := (y, withL g l, ())) (z2 := (i, withL g l2, ())) rfl rfl h1 h2 hy0 hy h (fun y' hy0' hy' l' hl' => (impl_row hg hn0 hn (s := (i, y', ())) (spot_is_fit hg hn0 hn ⟨h1, h2, hy0', hy'⟩) rfl h1 h2 hy0' hy' hl' (y', withL g l', ()) rfl).2)
        simp only [e3] at er
        simp only [spec_GrowWalls_l10, e1, p1, p2, hm, Option.bind_some, cond_true, growAt]
        cases iEq (g.2.2.1.getD (y * g.1 + i).toNat 0) 255
        · simp only [Bool.not_false, cond_true, cond_false, e3, withL]
        · simp only [Bool.not_true, cond_true, cond_false]
          exact er)
      (fun i l2 h1 h2 h => by
        have e1 : iLt i g.1 = false := iLt_neg (by omega)
        have e3 : iAdd .i64 y 1 = y + 1 := iAdd_eq (by omega) (by omega)
        simp only [spec_GrowWalls_l10, e1, cond_false, e3]
        rfl) hl
    rw [Int.sub_zero] at r
    exact r
  have r := run_count (f := spec_GrowWalls_l7 g n) (emb := fun i l => (i, withL g l, ())) (step := fun y l => loopI (fun x l => growAt g n x y l) 0 g.1.toNat l) (fin := fun l => ((withL g l, (0 : Int), ()), ())) (fun l => l.length = g.2.2.1.length) 0 g.2.1
    (fun i l h1 h2 h => (row i l h1 h2 h).2)
    (fun i l h1 h2 h => by
      have e1 : iLt i g.2.1 = true := iLt_pos h2
      simp only [spec_GrowWalls_l7, e1, cond_true]
      exact (row i l h1 h2 h).1)
    (fun i l h1 h2 h => by
      have e1 : iLt i g.2.1 = false := iLt_neg (by omega)
      simp only [spec_GrowWalls_l7, e1, cond_false]
      rfl) hl
  rw [Int.sub_zero] at r
  exact r.1
end

theorem growWalls_ok (g : DGrid) (hg : Fit TyGrid g) (n : Int) : ∃ w, spec_GrowWalls g n = some (w, ()) ∧ impl_GrowWalls g n = some (w, ()) ∧ Sized TyGrid w.1 := by
  have hl := grid_len hg
  have hl2 : g.2.2.1.length ≤ 140737488355328 := by omega
  have e1 : room (0 + g.2.2.1.length) 1 = true := room_pos (by omega)
  simp only [spec_GrowWalls, impl_GrowWalls, spec_l07Ok_ok, impl_ValidGrid_ok, within_eq, l00In_ok, Option.bind_some, spec_l07Copy, impl_ownGrid, slices_Clone_uint8_ok g.2.2.1 (by omega), e1, cond_true, List.nil_append]
  cases hb : gridB g with
  | false => exact ⟨_, rfl, rfl, trivial, trivial, sized_list (t := .int .u8) rfl (l := []) (Nat.zero_le _), trivial⟩
  | true =>
    simp only [Bool.not_true, cond_false]
    cases hc : (iLe 0 n && iLe n 24) with
    | false => exact ⟨_, rfl, rfl, trivial, trivial, sized_list (t := .int .u8) rfl (l := []) (Nat.zero_le _), trivial⟩
    | true =>
      simp only [Bool.and_eq_true, iLe_true] at hc
      simp only [Bool.not_true, cond_false, (spots_ok hb hc.1 hc.2).1, Option.bind_some]
      have h1 := spec_all hb hc.1 hc.2 (l := g.2.2.1) rfl
      have h2 := impl_all hb hc.1 hc.2 (l := g.2.2.1) rfl
      rw [fold_all hb hc.1 hc.2] at h2
      have h3 : (growAll g n g.2.2.1).length ≤ 140737488355328 := by rw [h2.2]; exact hl2
      exact ⟨(withL g (growAll g n g.2.2.1), (0 : Int), ()), h1, h2.1, trivial, trivial, sized_list (t := .int .u8) rfl (l := growAll g n g.2.2.1) h3, trivial⟩

theorem growWalls_val {g : DGrid} (hf : g.2.2.1.length ≤ 1000) (hg : gridB g = true) {n : Int} (h0 : 0 ≤ n) (h1 : n ≤ 24) : spec_GrowWalls g n = some ((withL g (growAll g n g.2.2.1), (0 : Int), ()), ()) ∧ impl_GrowWalls g n = some ((withL g (growAll g n g.2.2.1), (0 : Int), ()), ()) ∧ (growAll g n g.2.2.1).length = g.2.2.1.length := by
  have e1 : room (0 + g.2.2.1.length) 1 = true := room_pos (by omega)
  have hc : (iLe 0 n && iLe n 24) = true := by rw [iLe_pos h0, iLe_pos h1]; rfl
  simp only [spec_GrowWalls, impl_GrowWalls, spec_l07Ok_ok, impl_ValidGrid_ok, within_eq, l00In_ok, Option.bind_some, spec_l07Copy, impl_ownGrid, slices_Clone_uint8_ok g.2.2.1 (by omega), e1, cond_true, List.nil_append, hg, hc, Bool.not_true, cond_false, (spots_ok hg h0 h1).1]
  have k1 := spec_all hg h0 h1 (l := g.2.2.1) rfl
  have k2 := impl_all hg h0 h1 (l := g.2.2.1) rfl
  rw [fold_all hg h0 h1] at k2
  exact ⟨k1, k2.1, k2.2⟩

/-! ### what a growth does -/
def Eff (f : List Int → List Int) (P : Nat → Prop) (L : Nat) : Prop := ∀ l : List Int, l.length = L → (f l).length = L ∧ ∀ j, j < L → (P j → (f l).getD j 0 = 255) ∧ (¬ P j → (f l).getD j 0 = l.getD j 0)

theorem eff_loop {f : Int → List Int → List Int} {P : Int → Nat → Prop} {L : Nat} : ∀ (n : Nat) (lo : Int), (∀ i, lo ≤ i → i < lo + n → Eff (f i) (P i) L) → Eff (loopI f lo n) (fun j => ∃ i, lo ≤ i ∧ i < lo + n ∧ P i j) L
  | 0, lo, _ => fun l hl => ⟨hl, fun j hj => ⟨fun ⟨i, h1, h2, _⟩ => absurd h2 (by omega), fun _ => rfl⟩⟩
  | n + 1, lo, h => fun l hl => by
    obtain ⟨h1, h2⟩ := h lo (by omega) (by omega) l hl
    obtain ⟨h3, h4⟩ := eff_loop n (lo + 1) (fun i a b => h i (by omega) (by omega)) (f lo l) h1
    refine ⟨h3, fun j hj => ?_⟩
    obtain ⟨k1, k2⟩ := h4 j hj
    obtain ⟨k3, k4⟩ := h2 j hj
    refine ⟨fun ⟨i, a, b, c⟩ => ?_, fun hn => ?_⟩
    · by_cases hx : ∃ i, lo + 1 ≤ i ∧ i < lo + 1 + n ∧ P i j
      · exact k1 hx
      · have : i = lo := by
          rcases Int.lt_or_eq_of_le a with h | h
          · exact absurd ⟨i, by omega, by omega, c⟩ hx
          · exact h.symm
        subst this
        show (loopI f (i + 1) n (f i l)).getD j 0 = 255
        rw [k2 hx, k3 c]
    · show (loopI f (lo + 1) n (f lo l)).getD j 0 = l.getD j 0
      rw [k2 (fun ⟨i, a, b, c⟩ => hn ⟨i, by omega, by omega, c⟩), k4 (fun hp => hn ⟨lo, by omega, by omega, hp⟩)]

theorem eff_congr {f : List Int → List Int} {P Q : Nat → Prop} {L : Nat} (h : Eff f P L) (hpq : ∀ j, j < L → (P j ↔ Q j)) : Eff f Q L := fun l hl => by
  obtain ⟨h1, h2⟩ := h l hl
  exact ⟨h1, fun j hj => ⟨fun q => (h2 j hj).1 ((hpq j hj).2 q), fun q => (h2 j hj).2 fun p => q ((hpq j hj).1 p)⟩⟩

theorem eff_set (w y x : Int) (L : Nat) (h : 0 ≤ y * w + x) (h' : y * w + x < L) : Eff (setWall w y x) (fun j => (j : Int) = y * w + x) L := fun l hl => by
  unfold setWall
  refine ⟨by rw [List.length_set]; exact hl, fun j hj => ⟨fun e => ?_, fun e => ?_⟩⟩
  · have : (y * w + x).toNat = j := by omega
    rw [this, getD_of (by rw [List.length_set]; omega)]
    exact List.getElem_set_self _
  · have : (y * w + x).toNat ≠ j := by omega
    rw [List.getD_eq_getElem?_getD, List.getD_eq_getElem?_getD, List.getElem?_set_ne this]

def HitG (g : DGrid) (n : Int) (x y : Int) : Prop := ∃ u v : Int, 0 ≤ u ∧ u < g.1 ∧ 0 ≤ v ∧ v < g.2.1 ∧ g.2.2.1.getD (v * g.1 + u).toNat 0 = 255 ∧ -n ≤ x - u ∧ x - u ≤ n ∧ -n ≤ y - v ∧ y - v ≤ n

theorem same_place {w x y u v : Int} (hx : 0 ≤ x) (hx' : x < w) (hu : 0 ≤ u) (hu' : u < w) (h : y * w + x = v * w + u) : x = u ∧ y = v := by
  have h1 : (y * w + x) % w = x := by rw [Int.add_comm, Int.add_mul_emod_self_right]; exact Int.emod_eq_of_lt hx hx'
  have h2 : (v * w + u) % w = u := by rw [Int.add_comm, Int.add_mul_emod_self_right]; exact Int.emod_eq_of_lt hu hu'
  have e : x = u := by rw [← h1, h, h2]
  refine ⟨e, ?_⟩
  have h3 : y * w = v * w := by omega
  exact Int.eq_of_mul_eq_mul_right (by omega) h3

/-- which cells are walls behind a growth -/
theorem eff_all {g : DGrid} (hg : gridB g = true) {n : Int} (h0 : 0 ≤ n) : Eff (growAll g n) (fun j => ∃ x y, 0 ≤ x ∧ x < g.1 ∧ 0 ≤ y ∧ y < g.2.1 ∧ (j : Int) = y * g.1 + x ∧ HitG g n x y) g.2.2.1.length := by
  obtain ⟨g1, g2, g3, g4, g5⟩ := gridB_true hg
  have rect : ∀ u v : Int, 0 ≤ u → u < g.1 → 0 ≤ v → v < g.2.1 → Eff (growAt g n u v) (fun j => g.2.2.1.getD (v * g.1 + u).toNat 0 = 255 ∧ ∃ y, max 0 (v - n) ≤ y ∧ y < max 0 (v - n) + (min (g.2.1 - 1) (v + n) + 1 - max 0 (v - n)).toNat ∧ ∃ x, max 0 (u - n) ≤ x ∧ x < max 0 (u - n) + (min (g.1 - 1) (u + n) + 1 - max 0 (u - n)).toNat ∧ (j : Int) = y * g.1 + x) g.2.2.1.length := by
    intro u v hu hu' hv hv'
    cases hw : iEq (g.2.2.1.getD (v * g.1 + u).toNat 0) 255 with
    | false =>
      intro l hl
      unfold growAt
      rw [hw]
      have : g.2.2.1.getD (v * g.1 + u).toNat 0 ≠ 255 := by simpa [iEq] using hw
      exact ⟨hl, fun j hj => ⟨fun h => absurd h.1 this, fun _ => rfl⟩⟩
    | true =>
      have hw' : g.2.2.1.getD (v * g.1 + u).toNat 0 = 255 := by simpa [iEq] using hw
      have e : growAt g n u v = growRect g.1 (max 0 (u - n)) (min (g.1 - 1) (u + n)) (max 0 (v - n)) (min (g.2.1 - 1) (v + n)) := by
        funext l; unfold growAt; rw [hw]; rfl
      rw [e]
      have := eff_loop (f := fun y l => growRow g.1 y (max 0 (u - n)) (min (g.1 - 1) (u + n)) l) (P := fun y j => ∃ x, max 0 (u - n) ≤ x ∧ x < max 0 (u - n) + (min (g.1 - 1) (u + n) + 1 - max 0 (u - n)).toNat ∧ (j : Int) = y * g.1 + x) (L := g.2.2.1.length)
        (min (g.2.1 - 1) (v + n) + 1 - max 0 (v - n)).toNat (max 0 (v - n)) (fun y hy hy' => by
          refine eff_loop (f := fun x l => setWall g.1 y x l) (P := fun x j => (j : Int) = y * g.1 + x) _ _ (fun x hx hx' => ?_)
          obtain ⟨c1, c2⟩ := at_lt (w := g.1) (h := g.2.1) (x := x) (y := y) (by omega) (by omega) (by omega) (by omega) g2
          exact eff_set g.1 y x _ c1 (by omega))
      exact eff_congr this fun j hj => ⟨fun h => ⟨hw', h⟩, fun h => h.2⟩
  have all := eff_loop (f := fun y l => loopI (fun x l => growAt g n x y l) 0 g.1.toNat l) (L := g.2.2.1.length) g.2.1.toNat 0 (fun v hv hv' => eff_loop (f := fun x l => growAt g n x v l) g.1.toNat 0 (fun u hu hu' => rect u v hu (by omega) hv (by omega)))
  refine eff_congr all fun j hj => ⟨?_, ?_⟩
  · rintro ⟨v, v0, v1, u, u0, u1, hw, y, y0, y1, x, x0, x1, e⟩
    exact ⟨x, y, by omega, by omega, by omega, by omega, e, u, v, by omega, by omega, by omega, by omega, hw, by omega, by omega, by omega, by omega⟩
  · rintro ⟨x, y, x0, x1, y0, y1, e, u, v, u0, u1, v0, v1, hw, a1, a2, a3, a4⟩
    exact ⟨v, by omega, by omega, u, by omega, by omega, hw, y, by omega, by omega, x, by omega, by omega, e⟩

theorem grow_at {g : DGrid} (hg : gridB g = true) {n : Int} (h0 : 0 ≤ n) {x y : Int} (hx : 0 ≤ x) (hx' : x < g.1) (hy : 0 ≤ y) (hy' : y < g.2.1) : (HitG g n x y → (growAll g n g.2.2.1).getD (y * g.1 + x).toNat 0 = 255) ∧ (¬ HitG g n x y → (growAll g n g.2.2.1).getD (y * g.1 + x).toNat 0 = g.2.2.1.getD (y * g.1 + x).toNat 0) := by
  obtain ⟨g1, g2, g3, g4, g5⟩ := gridB_true hg
  obtain ⟨c1, c2⟩ := at_lt (w := g.1) (h := g.2.1) hx hx' hy hy' g2
  obtain ⟨-, h2⟩ := eff_all hg h0 g.2.2.1 rfl
  have hj : (y * g.1 + x).toNat < g.2.2.1.length := by omega
  have ej : (((y * g.1 + x).toNat : Nat) : Int) = y * g.1 + x := Int.toNat_of_nonneg c1
  obtain ⟨k1, k2⟩ := h2 _ hj
  refine ⟨fun h => k1 ⟨x, y, hx, hx', hy, hy', ej, h⟩, fun h => k2 ?_⟩
  rintro ⟨u, v, u0, u1, v0, v1, e, hh⟩
  obtain ⟨e1, e2⟩ := same_place (w := g.1) hx hx' u0 u1 (ej.symm.trans e)
  subst e1; subst e2
  exact h hh

/-- every place of a list of costs is a spot's -/
theorem place_spot {g : DGrid} (hg : gridB g = true) {j : Nat} (hj : j < g.2.2.1.length) : ∃ x y : Int, 0 ≤ x ∧ x < g.1 ∧ 0 ≤ y ∧ y < g.2.1 ∧ (y * g.1 + x).toNat = j := by
  obtain ⟨g1, g2, g3, g4, g5⟩ := gridB_true hg
  have h1 := Int.emod_nonneg (j : Int) (show g.1 ≠ 0 by omega)
  have h2 := Int.emod_lt_of_pos (j : Int) (show 0 < g.1 by omega)
  have h3 : 0 ≤ (j : Int) / g.1 := Int.ediv_nonneg (by omega) (by omega)
  have h4 := Int.mul_ediv_add_emod (j : Int) g.1
  have h5 : (j : Int) / g.1 < g.2.1 := Int.ediv_lt_of_lt_mul (by omega) (by rw [Int.mul_comm]; omega)
  refine ⟨(j : Int) % g.1, (j : Int) / g.1, h1, h2, h3, h5, ?_⟩
  rw [Int.mul_comm] at h4
  omega

/-- two growths by one are a growth by two -/
theorem grow_twice {g : DGrid} (hg : gridB g = true) : growAll (withL g (growAll g 1 g.2.2.1)) 1 (growAll g 1 g.2.2.1) = growAll g 2 g.2.2.1 := by
  obtain ⟨g1, g2, g3, g4, g5⟩ := gridB_true hg
  have hlen := ((eff_all hg (n := 1) (by omega)) g.2.2.1 rfl).1
  have hlen2 := ((eff_all hg (n := 2) (by omega)) g.2.2.1 rfl).1
  have hg' : gridB (withL g (growAll g 1 g.2.2.1)) = true := by
    have e : lenI (growAll g 1 g.2.2.1) = lenI g.2.2.1 := by rw [lenI_eq, lenI_eq, hlen]
    show ((iLe 1 g.1 && iLe g.1 24) && ((iLe 1 g.2.1 && iLe g.2.1 24) && iEq (lenI (growAll g 1 g.2.2.1)) (iMul .i64 g.1 g.2.1))) = true
    rw [e]
    exact hg
  have hlen3 := ((eff_all hg' (n := 1) (by omega)) (growAll g 1 g.2.2.1) rfl).1
  have hit : ∀ x y : Int, 0 ≤ x → x < g.1 → 0 ≤ y → y < g.2.1 → ((growAll g 1 g.2.2.1).getD (y * g.1 + x).toNat 0 = 255 ↔ HitG g 1 x y) := by
    intro x y hx hx' hy hy'
    obtain ⟨k1, k2⟩ := grow_at hg (n := 1) (by omega) hx hx' hy hy'
    refine ⟨fun h => ?_, k1⟩
    by_cases hh : HitG g 1 x y
    · exact hh
    · exact ⟨x, y, hx, hx', hy, hy', (k2 hh).symm.trans h, by omega, by omega, by omega, by omega⟩
  apply List.ext_getElem
  · rw [hlen2]; exact hlen3.trans hlen
  · intro j hj1 hj2
    have hj : j < g.2.2.1.length := by omega
    obtain ⟨x, y, hx, hx', hy, hy', e⟩ := place_spot hg hj
    obtain ⟨a1, a2⟩ := grow_at hg' (n := 1) (by omega) (x := x) (y := y) hx hx' hy hy'
    obtain ⟨b1, b2⟩ := grow_at hg (n := 2) (by omega) hx hx' hy hy'
    obtain ⟨c1, c2⟩ := grow_at hg (n := 1) (by omega) hx hx' hy hy'
    have a1 : HitG (withL g (growAll g 1 g.2.2.1)) 1 x y → (growAll (withL g (growAll g 1 g.2.2.1)) 1 (growAll g 1 g.2.2.1)).getD (y * g.1 + x).toNat 0 = 255 := a1
    have a2 : ¬ HitG (withL g (growAll g 1 g.2.2.1)) 1 x y → (growAll (withL g (growAll g 1 g.2.2.1)) 1 (growAll g 1 g.2.2.1)).getD (y * g.1 + x).toNat 0 = (growAll g 1 g.2.2.1).getD (y * g.1 + x).toNat 0 := a2
    rw [e] at a1 a2 b1 b2 c1 c2
    rw [← getD_of (d := 0) hj1, ← getD_of (d := 0) hj2]
    have eq : HitG (withL g (growAll g 1 g.2.2.1)) 1 x y ↔ HitG g 2 x y := by
      constructor
      · rintro ⟨u, v, u0, u1, v0, v1, hw, d1, d2, d3, d4⟩
        obtain ⟨u', v', p0, p1, q0, q1, hw', d1', d2', d3', d4'⟩ := (hit u v u0 u1 v0 v1).1 hw
        exact ⟨u', v', p0, p1, q0, q1, hw', by omega, by omega, by omega, by omega⟩
      · rintro ⟨u, v, u0, u1, v0, v1, hw, d1, d2, d3, d4⟩
        obtain ⟨mu, m0, m1, m2, m3, m4, m5⟩ : ∃ mu : Int, 0 ≤ mu ∧ mu < g.1 ∧ -1 ≤ mu - u ∧ mu - u ≤ 1 ∧ -1 ≤ x - mu ∧ x - mu ≤ 1 := by
          by_cases h1 : x < u
          · exact ⟨u - 1, by omega, by omega, by omega, by omega, by omega, by omega⟩
          · by_cases h2 : u < x
            · exact ⟨u + 1, by omega, by omega, by omega, by omega, by omega, by omega⟩
            · exact ⟨u, by omega, by omega, by omega, by omega, by omega, by omega⟩
        obtain ⟨mv, n0, n1, n2, n3, n4, n5⟩ : ∃ mv : Int, 0 ≤ mv ∧ mv < g.2.1 ∧ -1 ≤ mv - v ∧ mv - v ≤ 1 ∧ -1 ≤ y - mv ∧ y - mv ≤ 1 := by
          by_cases h1 : y < v
          · exact ⟨v - 1, by omega, by omega, by omega, by omega, by omega, by omega⟩
          · by_cases h2 : v < y
            · exact ⟨v + 1, by omega, by omega, by omega, by omega, by omega, by omega⟩
            · exact ⟨v, by omega, by omega, by omega, by omega, by omega, by omega⟩
        exact ⟨mu, mv, m0, m1, n0, n1, (hit mu mv m0 m1 n0 n1).2 ⟨u, v, u0, u1, v0, v1, hw, m2, m3, n2, n3⟩, by omega, by omega, by omega, by omega⟩
    by_cases h2 : HitG g 2 x y
    · rw [a1 (eq.2 h2), b1 h2]
    · rw [a2 (fun h => h2 (eq.1 h)), b2 h2, c2]
      rintro ⟨u, v, u0, u1, v0, v1, hw, d1, d2, d3, d4⟩
      exact h2 ⟨u, v, u0, u1, v0, v1, hw, by omega, by omega, by omega, by omega⟩
end Go.Proofs.YtdmaamakckochaaGreatDoor
