/- Functions of the program and of the reference in plain terms. -/
import Derived.Test.YtildomllnnnofaaGreatDoorP18
namespace Go.Proofs.YtildomllnnnofaaGreatDoor
open Go Go.Tm
set_option linter.unusedVariables false
set_option linter.unusedSimpArgs false
set_option linter.unusedSectionVars false
/-! ## the compiler, line after line -/
noncomputable abbrev Y5 (Y : List (List UInt8)) := impl_CompileMission_l5 ((Y, ()), ())
theorem drop_at {Y : List (List UInt8)} {p : Nat} {f : List UInt8} {B : List (List UInt8)} (h : Y.drop p = f :: B) : p < Y.length ∧ List.getD Y p [] = f ∧ Y.drop (p + 1) = B := by
  have h1 : p < Y.length := by
    rcases Nat.lt_or_ge p Y.length with h1 | h1
    · exact h1
    · rw [List.drop_eq_nil_of_le h1] at h; cases h
  rw [List.drop_eq_getElem_cons h1] at h
  obtain ⟨h2, h3⟩ := List.cons.inj h
  exact ⟨h1, by rw [getD_of h1]; exact h2, h3⟩

theorem comp_one {Y : List (List UInt8)} (hY : Y.length ≤ 200) {p : Nat} {f : List UInt8} {B : List (List UInt8)} (h : Y.drop p = f :: B) {m : DMission} {k : Int} {O : List (Int × (Int × Unit))} {c : Int} {st' : DComp}
    (hc : impl_compiler_compile ((m, k, O, ((p + 1 : Nat) : Int), ()) : DComp) f = some ((c, ()), (st', ()))) :
    Y5 Y (((m, k, O, (p : Int), ()) : DComp), ()) = bif (! (iEq c 0)) then some (.inr (((0, (0, 0, 0, ()), [], [], ()), (p : Int), c, ()), ())) else some (.inl (st', ())) := by
  obtain ⟨h1, h2, -⟩ := drop_at h
  have e1 : iLt (p : Int) (lenI Y) = true := iLt_pos (by rw [lenI_eq]; omega)
  have e2 : inB (p : Int) (List.length Y) = true := inB_pos h1
  have e3 : iAdd .i64 (p : Int) 1 = ((p + 1 : Nat) : Int) := iAdd_one h1 (by omega)
  obtain ⟨m1, m2, m3, m4, ⟨⟩⟩ := m
  unfold Y5 impl_CompileMission_l5
  simp only
  rw [e1, e2, e3, Int.toNat_natCast, h2]
  simp only [cond_true]
  rw [hc]
  rfl
theorem comp_step {Y : List (List UInt8)} (hY : Y.length ≤ 200) {p : Nat} {f : List UInt8} {B : List (List UInt8)} (h : Y.drop p = f :: B) {m : DMission} {k : Int} {O : List (Int × (Int × Unit))} {st' : DComp}
    (hc : impl_compiler_compile ((m, k, O, ((p + 1 : Nat) : Int), ()) : DComp) f = some ((0, ()), (st', ()))) :
    run (Y5 Y) (((m, k, O, (p : Int), ()) : DComp), ()) = run (Y5 Y) (st', ()) := run_step (comp_one hY h hc)
theorem comp_bad {Y : List (List UInt8)} (hY : Y.length ≤ 200) {p : Nat} {f : List UInt8} {B : List (List UInt8)} (h : Y.drop p = f :: B) {m : DMission} {k : Int} {O : List (Int × (Int × Unit))} {st' : DComp}
    (hc : impl_compiler_compile ((m, k, O, ((p + 1 : Nat) : Int), ()) : DComp) f = some ((5, ()), (st', ()))) :
    run (Y5 Y) (((m, k, O, (p : Int), ()) : DComp), ()) = some (((0, (0, 0, 0, ()), [], [], ()), (p : Int), 5, ()), ()) := run_done (comp_one hY h hc)
theorem comp_end (Y : List (List UInt8)) (m : DMission) (k : Int) :
    run (Y5 Y) (((m, k, [], (Y.length : Int), ()) : DComp), ()) = some ((m, 0, 0, ()), ()) := by
  refine run_done ?_
  have e1 : iLt (Y.length : Int) (lenI Y) = false := iLt_neg (by rw [lenI_eq]; omega)
  unfold Y5 impl_CompileMission_l5
  simp only
  rw [e1]
  rfl
theorem comp_open (Y : List (List UInt8)) (m : DMission) (k : Int) (o : Int × (Int × Unit)) :
    run (Y5 Y) (((m, k, [o], (Y.length : Int), ()) : DComp), ()) = some (((0, (0, 0, 0, ()), [], [], ()), (Y.length : Int), 4, ()), ()) := by
  refine run_done ?_
  have e1 : iLt (Y.length : Int) (lenI Y) = false := iLt_neg (by rw [lenI_eq]; omega)
  unfold Y5 impl_CompileMission_l5
  simp only
  rw [e1]
  rfl

/-! ### drawn legs, compiled -/
def LegsOK (ls : List DLeg) : Prop := ∀ x ∈ ls, 0 ≤ x.1 ∧ x.1 ≤ 8
theorem LegsOK.snoc {ls : List DLeg} (h : LegsOK ls) {x : Leg5} (hx : goodI x) : LegsOK (ls ++ [legI x]) := by
  intro y hy
  rcases List.mem_append.1 hy with hy | hy
  · exact h y hy
  · rw [List.mem_singleton.1 hy]
    obtain ⟨-, -, -, h4, h5⟩ := hx
    exact ⟨by show (0 : Int) ≤ (x.2.2.2.1 : Int); omega, by show (x.2.2.2.1 : Int) ≤ 8; omega⟩
theorem leg_run {Y : List (List UInt8)} (hY : Y.length ≤ 200) {x : Leg5} (hx : goodI x) {p : Nat} {B : List (List UInt8)} (h : Y.drop p = linesI x ++ B) {ls : List DLeg} (hls : LegsOK ls) (hl : ls.length ≤ 40 - 1) (O : List (Int × (Int × Unit))) :
    run (Y5 Y) (cst ls O p, ()) = run (Y5 Y) (cst (ls ++ [legI x]) O (p + (linesI x).length), ()) ∧ Y.drop (p + (linesI x).length) = B := by
  have hm : impl_compiler_compile (cst ls O (p + 1)) (moveL x) = some ((0, ()), (cst (ls ++ [((x.2.2.2.1 : Int), vI x, 3, -1, ())]) O (p + 1), ())) := by
    rw [move_comp _ hx, addLeg_ok hls (by omega) O (p + 1) (vI x) (by have := hx.2.2.2.1; omega) (by have := hx.2.2.2.2; omega)]
    rfl
  unfold linesI legI at *
  cases hb : x.2.2.2.2 with
  | false =>
    rw [hb] at h
    simp only [cond_false] at h ⊢
    refine ⟨?_, (drop_at h).2.2⟩
    exact comp_step hY h hm
  | true =>
    rw [hb] at h
    simp only [cond_true] at h ⊢
    have h2 := (drop_at h).2.2
    refine ⟨?_, (drop_at h2).2.2⟩
    refine (comp_step hY h hm).trans ?_
    exact comp_step hY h2 (range_comp (ls := ls) (by omega) O (p + 1 + 1) _ _)

theorem legs_comp {Y : List (List UInt8)} (hY : Y.length ≤ 200) (O : List (Int × (Int × Unit))) : ∀ (l : List Leg5) (p : Nat) (B : List (List UInt8)) (ls : List DLeg), (∀ x ∈ l, goodI x) → Y.drop p = l.flatMap linesI ++ B → LegsOK ls → ls.length + l.length ≤ 40 →
    run (Y5 Y) (cst ls O p, ()) = run (Y5 Y) (cst (ls ++ l.map legI) O (p + (l.flatMap linesI).length), ()) ∧ Y.drop (p + (l.flatMap linesI).length) = B ∧ LegsOK (ls ++ l.map legI)
  | [], p, B, ls, _, h, hls, _ => by
    simp only [List.flatMap_nil, List.nil_append, List.map_nil, List.append_nil, List.length_nil, Nat.add_zero] at h ⊢
    exact ⟨trivial, h, hls⟩
  | x :: l, p, B, ls, hg, h, hls, hl => by
    simp only [List.length_cons] at hl
    have hx := hg x (by simp)
    rw [List.flatMap_cons, List.append_assoc] at h
    obtain ⟨e1, e2⟩ := leg_run hY hx h hls (by omega) O
    obtain ⟨e3, e4, e5⟩ := legs_comp hY O l (p + (linesI x).length) B (ls ++ [legI x]) (fun y hy => hg y (List.mem_cons_of_mem _ hy)) e2 (hls.snoc hx) (by simp; omega)
    have a1 : ls ++ [legI x] ++ l.map legI = ls ++ (x :: l).map legI := by simp
    have a2 : p + (linesI x).length + (l.flatMap linesI).length = p + ((x :: l).flatMap linesI).length := by rw [List.flatMap_cons, List.length_append]; omega
    rw [a1] at e3 e5
    rw [a2] at e3 e4
    exact ⟨e1.trans e3, e4, e5⟩

def rep (n : Nat) (l : List Leg5) : List Leg5 := (List.replicate n l).flatten
theorem rep_succ (n : Nat) (l : List Leg5) : rep (n + 1) l = l ++ rep n l := by unfold rep; rw [List.replicate_succ, List.flatten_cons]
theorem rep_snoc (n : Nat) (l : List Leg5) : rep (n + 1) l = rep n l ++ l := by unfold rep; rw [List.replicate_succ', List.flatten_append]; simp
theorem rep_one (l : List Leg5) : rep 1 l = l := by unfold rep; simp
theorem rep_mem {n : Nat} {l : List Leg5} (h : ∀ x ∈ l, goodI x) : ∀ x ∈ rep n l, goodI x := by
  intro x hx
  unfold rep at hx
  obtain ⟨y, hy, hxy⟩ := List.mem_flatten.1 hx
  rw [(List.mem_replicate.1 hy).2] at hxy
  exact h x hxy
theorem rep_len (n : Nat) (l : List Leg5) : (rep n l).length = n * l.length := by
  induction n with
  | zero => unfold rep; simp
  | succ n ih => rw [rep_succ, List.length_append, ih, Nat.succ_mul]; omega

theorem rep_comp {Y : List (List UInt8)} (hY : Y.length ≤ 200) {l : List Leg5} (hg : ∀ x ∈ l, goodI x) {q : Nat} {B : List (List UInt8)} (h : Y.drop q = l.flatMap linesI ++ endL :: B) : ∀ (n : Nat) (ls : List DLeg), n ≤ 3 → LegsOK ls → ls.length + (n + 1) * l.length ≤ 40 →
    run (Y5 Y) (cst ls [((q : Int), (n : Int), ())] q, ()) = run (Y5 Y) (cst (ls ++ (rep (n + 1) l).map legI) [] (q + (l.flatMap linesI).length + 1), ())
  | 0, ls, _, hls, hl => by
    obtain ⟨e1, e2, e3⟩ := legs_comp hY [((q : Int), (0 : Int), ())] l q _ ls hg h hls (by omega)
    rw [rep_one]
    refine e1.trans ?_
    exact comp_step hY e2 (end_last _ _ _)
  | n + 1, ls, hn, hls, hl => by
    obtain ⟨e1, e2, e3⟩ := legs_comp hY [((q : Int), ((n + 1 : Nat) : Int), ())] l q _ ls hg h hls (by rw [Nat.succ_mul] at hl; omega)
    have ih := rep_comp hY hg h n (ls ++ l.map legI) (by omega) e3 (by rw [Nat.succ_mul] at hl; simp; omega)
    rw [List.append_assoc, ← List.map_append, ← rep_succ] at ih
    refine e1.trans (Eq.trans ?_ ih)
    exact comp_step hY e2 (end_more _ _ _ ⟨n, by omega⟩)

/-! ### heads and whole texts -/
theorem head_comp {Y B : List (List UInt8)} (hY : Y.length ≤ 200) (h : Y = beaconL :: fixL :: B) : run (Y5 Y) (st0, ()) = run (Y5 Y) (cst [] [] 2, ()) ∧ Y.drop 2 = B := by
  have h0 : Y.drop 0 = beaconL :: fixL :: B := h
  have h1 := (drop_at h0).2.2
  refine ⟨?_, (drop_at h1).2.2⟩
  refine (comp_step hY h0 (m := (8, (0, 0, 0, ()), [], [], ())) (k := 0) (O := []) beacon_comp).trans ?_
  exact comp_step hY h1 (m := (8, (0, 0, 0, ()), bs1, [], ())) (k := 0) (O := []) fix_comp

theorem textLines_ok {Y : List (List UInt8)} (h : ∀ f ∈ Y, (10 : UInt8) ∉ f) (hl : (linesT Y).length ≤ 4000) (hY : Y.length ≤ 200) : impl_textLines (linesT Y) = some ((Y, ()), ()) := by
  have n1 : lenI (Y ++ [([] : List UInt8)]) = ((Y.length + 1 : Nat) : Int) := by rw [lenI_eq]; simp
  have e2 : iSub .i64 ((Y.length + 1 : Nat) : Int) 1 = (Y.length : Int) := by rw [iSub_eq (by omega) (by omega)]; omega
  have e3 : inB (Y.length : Int) (List.length (Y ++ [([] : List UInt8)])) = true := inB_pos (by simp)
  have e4 : List.getD (Y ++ [([] : List UInt8)]) Y.length [] = [] := by simp [List.getD_eq_getElem?_getD]
  have e5 : inS 0 (Y.length : Int) (List.length (Y ++ [([] : List UInt8)])) = true := by
    simp [inS]; omega
  unfold impl_textLines
  rw [strings_Split_ok 10 (by omega), split_lines Y h]
  simp only [Option.bind_some]
  rw [n1, e2, e3, Int.toNat_natCast, e4, e5]
  simp only [cond_true, List.drop_zero]
  rw [List.take_left]
  rfl
theorem compile_text {Y : List (List UInt8)} (h : ∀ f ∈ Y, (10 : UInt8) ∉ f) (hl : (linesT Y).length ≤ 4000) (hY : Y.length ≤ 200) : impl_CompileMission (linesT Y) = run (Y5 Y) (st0, ()) := by
  have e1 : iLt 4000 (lenI (linesT Y)) = false := iLt_neg (by rw [lenI_eq]; omega)
  have e2 : iLt 200 (lenI Y) = false := iLt_neg (by rw [lenI_eq]; omega)
  unfold impl_CompileMission
  rw [textLines_ok h hl hY, e1]
  simp only [Option.bind_some, cond_false]
  rw [e2]
  rfl
end Go.Proofs.YtildomllnnnofaaGreatDoor
