/- Functions of the program and of the reference in plain terms. -/
import Derived.Test.YtildomllnnnofaaGreatDoorP17
namespace Go.Proofs.YtildomllnnnofaaGreatDoor
open Go Go.Tm
set_option linter.unusedVariables false
set_option linter.unusedSimpArgs false
set_option linter.unusedSectionVars false
/-! ## drawn legs -/
theorem number_drawn {n : Int} (hn : n ≤ 999999999999) {s : DSrc} (h : SrcOK n s) : ∃ (i : Nat) (s' : DSrc), i < 9 ∧ spec_l08Number s = some ((nW i, ()), (s', ())) ∧ SrcOK (n + 2) s' := by
  obtain ⟨v, s', e, v0, -, v9, hs⟩ := spec_pick_ok hn h 9 (by omega)
  have v9 := v9 (by omega)
  obtain ⟨i, rfl⟩ : ∃ i : Nat, v = (i : Int) := ⟨v.toNat, by omega⟩
  refine ⟨i, s', by omega, ?_, hs⟩
  have hg : ∀ j : Fin 9, List.getD ([[48], [49], [45, 49], [49, 47, 50], [50], [45, 51, 47, 52], [48], [52], [49, 47, 56]] : List (List UInt8)) j.val [] = nW j.val := by decide
  have hl : lenI ([[48], [49], [45, 49], [49, 47, 50], [50], [45, 51, 47, 52], [48], [52], [49, 47, 56]] : List (List UInt8)) = 9 := rfl
  have hb : inB (i : Int) (List.length ([[48], [49], [45, 49], [49, 47, 50], [50], [45, 51, 47, 52], [48], [52], [49, 47, 56]] : List (List UInt8))) = true := inB_pos (by show i < 9; omega)
  unfold spec_l08Number spec_l00Src_text
  rw [hl, e]
  simp only [Option.bind_some]
  rw [hb, Int.toNat_natCast, hg ⟨i, by omega⟩]
  rfl

theorem textI_snoc (l : List Leg5) (x : Leg5) : textI (l ++ [x]) = textI l ++ linesT (linesI x) := by
  unfold textI
  rw [List.flatMap_append]
  unfold linesT
  rw [List.flatMap_append]
  simp
theorem linesT_len {L : List (List UInt8)} (h : ∀ f ∈ L, f.length ≤ 30) : (linesT L).length ≤ 31 * L.length := by
  induction L with
  | nil => simp [linesT]
  | cons x L ih =>
    have := ih (fun f hf => h f (List.mem_cons_of_mem _ hf))
    have hx := h x (by simp)
    have e : linesT (x :: L) = (x ++ [10]) ++ linesT L := by unfold linesT; rw [List.flatMap_cons]
    rw [e]
    simp only [List.length_append, List.length_cons, List.length_nil]
    omega
theorem linesI_two (x : Leg5) : (linesI x).length ≤ 2 := by
  unfold linesI
  cases x.2.2.2.2 <;> simp
theorem flat_len : ∀ l : List Leg5, (l.flatMap linesI).length ≤ 2 * l.length
  | [] => by simp
  | x :: l => by
    have := flat_len l
    have := linesI_two x
    rw [List.flatMap_cons, List.length_append, List.length_cons]
    omega
theorem flat_free {l : List Leg5} (h : ∀ x ∈ l, goodI x) : ∀ f ∈ l.flatMap linesI, (10 : UInt8) ∉ f ∧ f.length ≤ 30 := by
  intro f hf
  obtain ⟨x, hx, hf⟩ := List.mem_flatMap.1 hf
  exact linesI_free (h x hx) f hf
theorem textI_len {l : List Leg5} (h : ∀ x ∈ l, goodI x) : (textI l).length ≤ 62 * l.length := by
  have h1 := linesT_len (fun f hf => (flat_free h f hf).2)
  have h2 := flat_len l
  unfold textI
  omega

theorem legs_step {n : Int} (hn : n ≤ 1000000) {s : DSrc} (hs : SrcOK n s) {out : List UInt8} (ho : out.length ≤ 1000000) {d : Nat} (hd : d ≤ 1000) :
    ∃ (x : Leg5) (s' : DSrc), goodI x ∧ spec_A2Legs_l4 (out, ((d + 1 : Nat) : Int), s, ()) = some (.inl (out ++ linesT (linesI x), (d : Int), s', ())) ∧ SrcOK (n + 20) s' := by
  obtain ⟨i, s1, hi, e1, h1⟩ := number_drawn (by omega) hs
  obtain ⟨j, s2, hj, e2, h2⟩ := number_drawn (by omega) h1
  obtain ⟨k, s3, hk, e3, h3⟩ := number_drawn (by omega) h2
  obtain ⟨v, s4, e4, v0, -, v8, h4⟩ := spec_pick_ok (by omega) h3 8 (by omega)
  have v8 := v8 (by omega)
  obtain ⟨w, s5, e5, w0, -, w3, h5⟩ := spec_pick_ok (by omega) h4 3 (by omega)
  obtain ⟨t, rfl⟩ : ∃ t : Nat, v = (t : Int) := ⟨v.toNat, by omega⟩
  have ea : iAdd .i64 1 (t : Int) = ((t + 1 : Nat) : Int) := by rw [iAdd_eq (by omega) (by omega)]; omega
  have ed : spec_Decimal ((t + 1 : Nat) : Int) = some ((digW (t + 1), ()), ()) := by
    rw [(spec_Decimal_ok (n := t + 1) (by omega)).1, digits9 ⟨t + 1, by omega⟩]
  have es : iSub .i64 ((d + 1 : Nat) : Int) 1 = (d : Int) := by rw [iSub_eq (by omega) (by omega)]; omega
  have el : iLt 0 ((d + 1 : Nat) : Int) = true := iLt_pos (by omega)
  have a1 := (nW_tab ⟨i, hi⟩).2.2
  have a2 := (nW_tab ⟨j, hj⟩).2.2
  have a3 := (nW_tab ⟨k, hk⟩).2.2
  simp only at a1 a2 a3
  have a4 : (digW (t + 1)).length = 1 := rfl
  refine ⟨(i, j, k, t + 1, iEq w 0), s5, ⟨hi, hj, hk, by show 1 ≤ t + 1; omega, by show t + 1 ≤ 8; omega⟩, ?_, h5.mono (by omega)⟩
  unfold spec_A2Legs_l4
  simp only
  rw [el, e1]
  simp only [cond_true, Option.bind_some]
  rw [strRoom_ok (by simp; omega), strRoom_ok (by unfold strCat; simp; omega), e2]
  simp only [cond_true, Option.bind_some]
  rw [strRoom_ok (by unfold strCat; simp; omega), strRoom_ok (by unfold strCat; simp; omega), e3]
  simp only [cond_true, Option.bind_some]
  rw [strRoom_ok (by unfold strCat; simp; omega), strRoom_ok (by unfold strCat; simp; omega), e4]
  simp only [cond_true, Option.bind_some]
  rw [ea, ed]
  simp only [cond_true, Option.bind_some]
  rw [strRoom_ok (by unfold strCat; simp [a4]; omega), strRoom_ok (by unfold strCat; simp [a4]; omega), strRoom_ok (by unfold strCat; simp [a4]; omega)]
  simp only [cond_true]
  unfold spec_l00Src_one
  rw [e5]
  simp only [Option.bind_some]
  rw [es]
  cases iEq w 0 with
  | true =>
    simp only [cond_true]
    rw [strRoom_ok (by unfold strCat; simp [a4]; omega)]
    simp only [cond_true]
    unfold linesI linesT moveL wMv rangeL strCat
    simp
  | false =>
    simp only [cond_false]
    unfold linesI linesT moveL wMv strCat
    simp

theorem legs_run : ∀ (d : Nat) (n : Int) (s : DSrc) (l : List Leg5), n + 20 * d ≤ 1000000 → SrcOK n s → (∀ x ∈ l, goodI x) → l.length + d ≤ 1000 →
    ∃ l' : List Leg5, run (spec_A2Legs_l4) (textI l, (d : Int), s, ()) = some ((textI (l ++ l'), ()), ()) ∧ l'.length = d ∧ ∀ x ∈ l', goodI x := by
  intro d
  induction d with
  | zero =>
    intro n s l hn hs hl hd
    refine ⟨[], ?_, rfl, by simp⟩
    refine run_done ?_
    unfold spec_A2Legs_l4
    have e : iLt 0 ((0 : Nat) : Int) = false := rfl
    simp only
    rw [e, List.append_nil]
    rfl
  | succ d ih =>
    intro n s l hn hs hl hd
    have hlen := textI_len hl
    obtain ⟨x, s', hx, hst, hs'⟩ := legs_step (by omega) hs (out := textI l) (by omega) (d := d) (by omega)
    rw [← textI_snoc] at hst
    obtain ⟨l', h1, h2, h3⟩ := ih (n + 20) s' (l ++ [x]) (by omega) hs' (by
      intro y hy
      rcases List.mem_append.1 hy with hy | hy
      · exact hl y hy
      · rw [List.mem_singleton.1 hy]; exact hx) (by simp; omega)
    refine ⟨x :: l', ?_, by simp [h2], ?_⟩
    · rw [run_step hst, h1]
      simp
    · intro y hy
      rcases List.mem_cons.1 hy with rfl | hy
      · exact hx
      · exact h3 y hy

theorem a2Legs_ok {c : List Int} (h : ∀ x ∈ c, 0 ≤ x ∧ x ≤ 255) (hl : c.length ≤ 4096) : ∃ l : List Leg5, spec_A2Legs c 4 = some ((textI l, ()), ()) ∧ l.length ≤ 4 ∧ ∀ x ∈ l, goodI x := by
  have hs := src_from h hl
  have e5 : iAdd .i64 4 1 = 5 := rfl
  obtain ⟨v, s', e, v0, -, v5, hs'⟩ := spec_pick_ok (by omega) hs 5 (by omega)
  have v5 := v5 (by omega)
  obtain ⟨d, rfl⟩ : ∃ d : Nat, v = (d : Int) := ⟨v.toNat, by omega⟩
  obtain ⟨l, h1, h2, h3⟩ := legs_run d 2 s' [] (by omega) hs' (by simp) (by simp; omega)
  refine ⟨l, ?_, by omega, h3⟩
  unfold spec_A2Legs
  rw [spec_l00From_ok]
  simp only [Option.bind_some]
  rw [e5, e]
  simp only [Option.bind_some]
  exact h1
end Go.Proofs.YtildomllnnnofaaGreatDoor
