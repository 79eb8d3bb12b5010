/- Functions of the program and of the reference in plain terms. -/
import Derived.Test.YtdmaamakckochaaGreatDoorP10
namespace Go.Proofs.YtdmaamakckochaaGreatDoor
open Go Go.Tm
set_option linter.unusedVariables false
set_option linter.unusedSimpArgs false
set_option linter.unusedSectionVars false
/-! ### texts out of words and lines -/
def joinC (c : UInt8) : List (List UInt8) → List UInt8
  | [] => []
  | [w] => w
  | w :: v :: r => w ++ c :: joinC c (v :: r)
theorem join_split (c : UInt8) : ∀ (n : Nat) (s : List UInt8), s.length ≤ n → joinC c (splitC c s) = s := by
  intro n
  induction n with
  | zero =>
    intro s h
    have : s = [] := List.length_eq_zero_iff.1 (by omega)
    subst this; rfl
  | succ n ih =>
    intro s h
    rcases cut_first c s with hf | ⟨p, r, rfl, hf⟩
    · rw [splitC_free hf]; rfl
    · rw [splitC_cut r hf]
      have hl : r.length ≤ n := by simp at h; omega
      cases hr : splitC c r with
      | nil => exact absurd hr (splitC_ne c r)
      | cons x y =>
        show p ++ c :: joinC c (x :: y) = _
        rw [← hr, ih r hl]
theorem split_join (c : UInt8) : ∀ ws : List (List UInt8), ws ≠ [] → (∀ w ∈ ws, c ∉ w) → splitC c (joinC c ws) = ws
  | [], h, _ => absurd rfl h
  | [w], _, h => splitC_free (h w (by simp))
  | w :: v :: r, _, h => by
    show splitC c (w ++ c :: joinC c (v :: r)) = _
    rw [splitC_cut _ (h w (by simp)), split_join c (v :: r) (by simp) (fun x hx => h x (List.mem_cons_of_mem _ hx))]
theorem join_free {c d : UInt8} (hcd : d ≠ c) : ∀ ws : List (List UInt8), (∀ w ∈ ws, d ∉ w) → d ∉ joinC c ws
  | [], _ => by simp [joinC]
  | [w], h => h w (by simp)
  | w :: v :: r, h => by
    show d ∉ w ++ c :: joinC c (v :: r)
    intro hd
    rcases List.mem_append.1 hd with hd | hd
    · exact h w (by simp) hd
    · rcases List.mem_cons.1 hd with hd | hd
      · exact hcd hd
      · exact join_free hcd (v :: r) (fun x hx => h x (List.mem_cons_of_mem _ hx)) hd

def linesT (Ls : List (List UInt8)) : List UInt8 := Ls.flatMap fun x => x ++ [10]
theorem split_lines : ∀ Ls : List (List UInt8), (∀ x ∈ Ls, (10 : UInt8) ∉ x) → splitC 10 (linesT Ls) = Ls ++ [[]]
  | [], _ => rfl
  | x :: Ls, h => by
    have e : linesT (x :: Ls) = x ++ 10 :: linesT Ls := by
      unfold linesT; rw [List.flatMap_cons]; simp
    rw [e, splitC_cut _ (h x (by simp)), split_lines Ls (fun y hy => h y (List.mem_cons_of_mem _ hy))]
    rfl
theorem join_lines : ∀ Ls : List (List UInt8), joinC 10 (Ls ++ [[]]) = linesT Ls
  | [] => rfl
  | x :: Ls => by
    have e : linesT (x :: Ls) = x ++ 10 :: linesT Ls := by
      unfold linesT; rw [List.flatMap_cons]; simp
    rw [e, ← join_lines Ls]
    cases Ls <;> rfl
theorem lines_of {s : List UInt8} {Ls : List (List UInt8)} (h : splitC 10 s = Ls ++ [[]]) : s = linesT Ls := by
  rw [← join_lines, ← h, join_split 10 s.length s (Nat.le_refl _)]

/-! ### a log's words -/
def hex8 (a : Nat) : List UInt8 := hexP 8 (bitsOf a)
def vecW (v : Vec 3 Nat) : List (List UInt8) := [hex8 v.1, hex8 v.2.1, hex8 v.2.2.1]
def wLog : List UInt8 := [108, 111, 103]
def wBea : List UInt8 := [98, 101, 97, 99, 111, 110]
def wTick : List UInt8 := [116, 105, 99, 107]
def wMov : List UInt8 := [109, 111, 118, 101]
def wFi : List UInt8 := [102, 105, 120]
def wRan : List UInt8 := [114, 97, 110, 103, 101]
def entW (e : DEntry) : List (List UInt8) :=
  bif iEq e.1 1 then [wTick] else bif iEq e.1 2 then wMov :: vecW e.2.1 else bif iEq e.1 3 then [wFi, Lib.itoa e.2.2.1.1, Lib.itoa e.2.2.1.2.1, Lib.itoa e.2.2.1.2.2.1] else [wRan, Lib.itoa e.2.2.2.1, hex8 e.2.2.2.2.1]
def headL (a : Int) (v : Vec 3 Nat) : List UInt8 := joinC 32 (wLog :: Lib.itoa a :: vecW v)
def beaL (v : Vec 3 Nat) : List UInt8 := joinC 32 (wBea :: vecW v)
def entL (e : DEntry) : List UInt8 := joinC 32 (entW e)
def logL (l : DLog) : List (List UInt8) := headL l.1 l.2.1 :: (l.2.2.1.map beaL ++ l.2.2.2.1.map entL)
def logT (l : DLog) : List UInt8 := linesT (logL l)

theorem hexC_free {c : UInt8} (hc : c = 32 ∨ c = 10) {d : Nat} (h : d < 16) : hexC d ≠ c := by
  have key : ∀ d : Fin 16, hexC d.val ≠ 32 ∧ hexC d.val ≠ 10 := by decide
  rcases hc with rfl | rfl
  · exact (key ⟨d, h⟩).1
  · exact (key ⟨d, h⟩).2
theorem hexP_free {c : UInt8} (hc : c = 32 ∨ c = 10) : ∀ k n, c ∉ hexP k n
  | 0, _ => by simp [hexP]
  | k + 1, n => by
    rw [hexP]
    intro h
    rcases List.mem_append.1 h with h | h
    · exact hexP_free hc k _ h
    · rw [List.mem_singleton] at h
      exact hexC_free hc (Nat.mod_lt n (by decide)) h.symm
theorem itoa_free {c : UInt8} (hc : c = 32 ∨ c = 10) (n : Int) : c ∉ Lib.itoa n := by
  have hd : ∀ u, c ∉ Lib.decDigits u := fun u => by
    rcases hc with rfl | rfl
    · exact digits_free rfl u
    · exact digits_free rfl u
  unfold Lib.itoa
  split
  · intro h
    rcases List.mem_cons.1 h with h | h
    · rcases hc with rfl | rfl <;> exact absurd h (by decide)
    · exact hd _ h
  · exact hd _
theorem vecW_free {c : UInt8} (hc : c = 32 ∨ c = 10) (v : Vec 3 Nat) : ∀ w ∈ vecW v, c ∉ w := by
  intro w hw
  unfold vecW at hw
  simp only [List.mem_cons, List.mem_nil_iff, or_false] at hw
  rcases hw with rfl | rfl | rfl <;> exact hexP_free hc 8 _
theorem word_freeL {c : UInt8} (hc : c = 32 ∨ c = 10) {w : List UInt8} (h : w = wLog ∨ w = wBea ∨ w = wTick ∨ w = wMov ∨ w = wFi ∨ w = wRan) : c ∉ w := by
  rcases hc with rfl | rfl <;> rcases h with rfl | rfl | rfl | rfl | rfl | rfl <;> decide
theorem headW_free {c : UInt8} (hc : c = 32 ∨ c = 10) (a : Int) (v : Vec 3 Nat) : ∀ w ∈ wLog :: Lib.itoa a :: vecW v, c ∉ w := by
  intro w hw
  rcases List.mem_cons.1 hw with rfl | hw
  · exact word_freeL hc (.inl rfl)
  · rcases List.mem_cons.1 hw with rfl | hw
    · exact itoa_free hc a
    · exact vecW_free hc v w hw
theorem beaW_free {c : UInt8} (hc : c = 32 ∨ c = 10) (v : Vec 3 Nat) : ∀ w ∈ wBea :: vecW v, c ∉ w := by
  intro w hw
  rcases List.mem_cons.1 hw with rfl | hw
  · exact word_freeL hc (.inr (.inl rfl))
  · exact vecW_free hc v w hw
theorem entW_free {c : UInt8} (hc : c = 32 ∨ c = 10) (e : DEntry) : ∀ w ∈ entW e, c ∉ w := by
  intro w hw
  unfold entW at hw
  generalize iEq e.1 1 = b1 at hw
  generalize iEq e.1 2 = b2 at hw
  generalize iEq e.1 3 = b3 at hw
  cases b1 with
  | true =>
    simp only [cond_true, List.mem_singleton] at hw
    subst hw
    exact word_freeL hc (.inr (.inr (.inl rfl)))
  | false =>
    cases b2 with
    | true =>
      rcases List.mem_cons.1 hw with rfl | hw
      · exact word_freeL hc (.inr (.inr (.inr (.inl rfl))))
      · exact vecW_free hc _ w hw
    | false =>
      cases b3 with
      | true =>
        simp only [cond_true, cond_false, List.mem_cons, List.mem_nil_iff, or_false] at hw
        rcases hw with rfl | rfl | rfl | rfl
        · exact word_freeL hc (.inr (.inr (.inr (.inr (.inl rfl)))))
        · exact itoa_free hc _
        · exact itoa_free hc _
        · exact itoa_free hc _
      | false =>
        simp only [cond_false, List.mem_cons, List.mem_nil_iff, or_false] at hw
        rcases hw with rfl | rfl | rfl
        · exact word_freeL hc (.inr (.inr (.inr (.inr (.inr rfl)))))
        · exact itoa_free hc _
        · exact hexP_free hc 8 _
theorem entW_ne (e : DEntry) : entW e ≠ [] := by
  unfold entW
  cases iEq e.1 1 <;> cases iEq e.1 2 <;> cases iEq e.1 3 <;> simp
theorem logL_free (l : DLog) : ∀ x ∈ logL l, (10 : UInt8) ∉ x := by
  intro x hx
  rcases List.mem_cons.1 hx with rfl | hx
  · exact join_free (by decide) _ (headW_free (.inr rfl) _ _)
  · rcases List.mem_append.1 hx with hx | hx
    · obtain ⟨v, _, rfl⟩ := List.mem_map.1 hx
      exact join_free (by decide) _ (beaW_free (.inr rfl) _)
    · obtain ⟨e, _, rfl⟩ := List.mem_map.1 hx
      exact join_free (by decide) _ (entW_free (.inr rfl) _)
theorem logT_split (l : DLog) : splitC 10 (logT l) = logL l ++ [[]] := split_lines _ (logL_free l)

/-! ### the line reader -/
def goodN (a : Nat) : Prop := numR (hex8 a) = some a
theorem numR_good {s : List UInt8} {a : Nat} (h : numR s = some a) : hex8 a = s ∧ goodN a := by
  have e : hex8 a = s := (numR_text h).2
  exact ⟨e, by unfold goodN; rw [e]; exact h⟩
def goodV (v : Vec 3 Nat) : Prop := goodN v.1 ∧ goodN v.2.1 ∧ goodN v.2.2.1

theorem number_ok (r : DRd) (h : (wordOf r).length ≤ 1048576) : ∃ a : Nat, impl_lineReader_number r = some ((a, ()), ((r.1.drop 1, ((r.1.isEmpty || r.2.1) || (numR (wordOf r)).isNone, ())), ())) ∧ ∀ x, numR (wordOf r) = some x → a = x := by
  obtain ⟨ws, f, ⟨⟩⟩ := r
  have hw := impl_lineReader_word_ok (ws, f, ())
  have hn := impl_ReadNumber_ok h
  unfold impl_lineReader_number
  rw [hw]
  simp only [Option.bind_some]
  rw [hn]
  cases hr : numR (wordOf (ws, f, ())) with
  | none =>
    refine ⟨0, ?_, fun x hx => by cases hx⟩
    simp only [Option.bind_some, restOf]
    cases (ws.isEmpty || f) <;> rfl
  | some a =>
    refine ⟨a, ?_, fun x hx => Option.some.inj hx⟩
    simp only [Option.bind_some, restOf]
    cases (ws.isEmpty || f) <;> rfl

theorem wordOf_short {r : DRd} (h : ∀ w ∈ r.1, w.length ≤ 1048576) : (wordOf r).length ≤ 1048576 := by
  obtain ⟨ws, f⟩ := r
  cases ws with
  | nil => exact Nat.zero_le _
  | cons w ws => exact h w (by simp)

theorem number_step {r : DRd} (h : ∀ w ∈ r.1, w.length ≤ 1048576) : ∃ (a : Nat) (r' : DRd), impl_lineReader_number r = some ((a, ()), (r', ())) ∧ r'.1 = r.1.drop 1 ∧
    (r'.2.1 = false → r.2.1 = false ∧ ∃ ws, r.1 = hex8 a :: ws ∧ goodN a) ∧ (∀ x ws, r.2.1 = false → r.1 = hex8 x :: ws → goodN x → a = x ∧ r'.2.1 = false) := by
  obtain ⟨a, h1, h2⟩ := number_ok r (wordOf_short h)
  refine ⟨a, _, h1, rfl, fun hf => ?_, fun x ws h3 h4 h5 => ?_⟩
  · simp only [Bool.or_eq_false_iff] at hf
    obtain ⟨⟨f1, f2⟩, f3⟩ := hf
    refine ⟨f2, ?_⟩
    obtain ⟨ws, f, ⟨⟩⟩ := r
    cases ws with
    | nil => cases f1
    | cons w ws =>
      cases hn : numR (wordOf (w :: ws, f, ())) with
      | none => rw [hn] at f3; cases f3
      | some x =>
        have := h2 x hn
        subst this
        obtain ⟨e1, e2⟩ := numR_good hn
        exact ⟨ws, by rw [e1]; rfl, e2⟩
  · have hw : wordOf r = hex8 x := by unfold wordOf; rw [h4]; rfl
    have hn : numR (wordOf r) = some x := by rw [hw]; exact h5
    refine ⟨h2 x hn, ?_⟩
    rw [hn, h3, h4]
    rfl

theorem three_step {r : DRd} (h : ∀ w ∈ r.1, w.length ≤ 1048576) : ∃ (v : Vec 3 Nat) (r' : DRd), impl_lineReader_three r = some ((v, ()), (r', ())) ∧ r'.1 = r.1.drop 3 ∧
    (r'.2.1 = false → r.2.1 = false ∧ ∃ ws, r.1 = vecW v ++ ws ∧ goodV v) ∧ (∀ x ws, r.2.1 = false → r.1 = vecW x ++ ws → goodV x → v = x ∧ r'.2.1 = false) := by
  obtain ⟨a, r1, e1, p1, q1, s1⟩ := number_step h
  obtain ⟨b, r2, e2, p2, q2, s2⟩ := number_step (r := r1) (fun w hw => h w (by rw [p1] at hw; exact List.mem_of_mem_drop hw))
  obtain ⟨c, r3, e3, p3, q3, s3⟩ := number_step (r := r2) (fun w hw => h w (by rw [p2, p1] at hw; exact List.mem_of_mem_drop (List.mem_of_mem_drop hw)))
  refine ⟨(a, b, c, ()), r3, ?_, ?_, fun hf => ?_, fun x ws h1 h2 h3 => ?_⟩
  · unfold impl_lineReader_three
    show (impl_lineReader_number r).bind _ = _
    rw [e1]
    simp only [Option.bind_some]
    show (impl_lineReader_number r1).bind _ = _
    rw [e2]
    simp only [Option.bind_some]
    show (impl_lineReader_number r2).bind _ = _
    rw [e3]
    rfl
  · rw [p3, p2, p1, List.drop_drop, List.drop_drop]
  · obtain ⟨f2, ws3, w3, g3⟩ := q3 hf
    obtain ⟨f1, ws2, w2, g2⟩ := q2 f2
    obtain ⟨f0, ws1, w1, g1⟩ := q1 f1
    refine ⟨f0, ws3, ?_, g1, g2, g3⟩
    rw [p1, w1] at w2
    rw [p2, p1, w1] at w3
    simp only [List.drop_succ_cons, List.drop_zero] at w2 w3
    rw [w1, w2]
    rw [w2] at w3
    simp only [List.drop_succ_cons, List.drop_zero] at w3
    rw [w3]
    rfl
  · obtain ⟨x0, x1, x2, ⟨⟩⟩ := x
    obtain ⟨g1, g2, g3⟩ := h3
    have h2' : r.1 = hex8 x0 :: hex8 x1 :: hex8 x2 :: ws := h2
    obtain ⟨rfl, f1⟩ := s1 x0 _ h1 h2' g1
    obtain ⟨rfl, f2⟩ := s2 x1 _ f1 (by rw [p1, h2']; rfl) g2
    obtain ⟨rfl, f3⟩ := s3 x2 _ f2 (by rw [p2, p1, h2']; rfl) g3
    exact ⟨rfl, f3⟩

theorem parse_itoa {n : Int} (h : -999999999 ≤ n) (h1 : n ≤ 999999999) : parseInt64 (Lib.itoa n) = (n, true) := by
  by_cases h0 : 0 ≤ n
  · rw [itoa_pos h0, parseInt64_digits (by omega), Int.toNat_of_nonneg h0]
  · obtain ⟨u, rfl⟩ : ∃ u : Nat, n = -(u : Int) := ⟨n.natAbs, by omega⟩
    have hu : 1 ≤ u := by omega
    obtain ⟨h1, h2, _⟩ := decDigits_val' u
    have hp := parseUintM_ok (Lib.decDigits u) 0 h1 (by rw [h2]; omega)
    rw [h2] at hp
    have hne := decDigits_pos u
    rw [Lib.itoa_neg u hu]
    unfold parseInt64
    have : Lib.parseIntB 64 (45 :: Lib.decDigits u) = .ok (-(u : Int)) := by
      unfold Lib.parseIntB
      have hd : ¬ (Lib.decDigits u = []) := by intro h; rw [h] at hne; simp at hne
      simp only [if_pos (show ((45 : UInt8).toNat = 43 ∨ (45 : UInt8).toNat = 45) by decide), Lib.parseUintB, if_neg hd, hp]
      rw [if_neg (by intro h; exact h.1 rfl), if_neg (by omega), if_pos (by decide)]
    rw [this]

theorem integer_step {r : DRd} (h : ∀ w ∈ r.1, w.length ≤ 1048576) : ∃ (n : Int) (r' : DRd), impl_lineReader_integer r = some ((n, ()), (r', ())) ∧ r'.1 = r.1.drop 1 ∧
    (r'.2.1 = false → r.2.1 = false ∧ ∃ ws, r.1 = Lib.itoa n :: ws) ∧ (∀ x ws, r.2.1 = false → r.1 = Lib.itoa x :: ws → -999999999 ≤ x → x ≤ 999999999 → n = x ∧ r'.2.1 = false) := by
  refine ⟨intOf r, intRest r, impl_lineReader_integer_ok (wordOf_short h), rfl, fun hf => ?_, fun x ws h1 h2 h3 h4 => ?_⟩
  · unfold intRest at hf
    simp only [Bool.or_eq_false_iff, Bool.not_eq_false'] at hf
    obtain ⟨⟨f1, f2⟩, f3, f4⟩ := hf
    refine ⟨f2, ?_⟩
    obtain ⟨ws, f, ⟨⟩⟩ := r
    cases ws with
    | nil => cases f1
    | cons w ws =>
      refine ⟨ws, ?_⟩
      have : Lib.itoa (intOf (w :: ws, f, ())) = w := by simpa [sEq, wordOf] using f4
      rw [this]
  · have hw : wordOf r = Lib.itoa x := by unfold wordOf; rw [h2]; rfl
    have hp := parse_itoa h3 h4
    have hi : intOf r = x := by unfold intOf; rw [hw, hp]
    refine ⟨hi, ?_⟩
    unfold intRest
    simp only
    rw [hw, hi, hp, sEq_self, h1, h2]
    rfl

/-! ### an entry's line, as the program reads it -/
def goodE (e : DEntry) : Prop := (e.1 = 2 → goodV e.2.1) ∧ (e.1 = 3 → (-32768 ≤ e.2.2.1.1 ∧ e.2.2.1.1 ≤ 32767) ∧ (-32768 ≤ e.2.2.1.2.1 ∧ e.2.2.1.2.1 ≤ 32767) ∧ (-32768 ≤ e.2.2.1.2.2.1 ∧ e.2.2.1.2.2.1 ≤ 32767)) ∧ (e.1 = 4 → goodN e.2.2.2.2.1)
def endedB (r : DRd) : Bool := !r.2.1 && r.1.isEmpty

theorem zeroC_eq {c : Vec 3 Int} (h : zeroC c = true) : c = (0, 0, 0, ()) := by
  obtain ⟨a, b, d, ⟨⟩⟩ := c
  have h' : (iEq a 0 && (iEq b 0 && iEq d 0)) = true := h
  simp only [Bool.and_eq_true, iEq_true] at h'
  obtain ⟨rfl, rfl, rfl⟩ := h'
  rfl
theorem sameV_eq {v : Vec 3 Nat} (h : sameV v (0, 0, 0, ()) = true) : v = (0, 0, 0, ()) := by
  obtain ⟨a, b, d, ⟨⟩⟩ := v
  have h' : (sameN a 0 && (sameN b 0 && sameN d 0)) = true := h
  simp only [Bool.and_eq_true] at h'
  rw [sameN_zero h'.1, sameN_zero h'.2.1, sameN_zero h'.2.2]
  rfl
theorem sEq_neL {a b : List UInt8} (h : a ≠ b) : sEq a b = false := by
  cases e : sEq a b with
  | false => rfl
  | true => exact absurd (by simpa [sEq] using e) h

/-- a valid entry by its kind -/
theorem entry_kind {n : Int} {e : DEntry} (h : entryB n e = true) : (e = (1, (0, 0, 0, ()), (0, 0, 0, ()), 0, 0, ())) ∨ (∃ v : Vec 3 Nat, e = (2, v, (0, 0, 0, ()), 0, 0, ()) ∧ finV v = true) ∨ (∃ c : Vec 3 Int, e = (3, (0, 0, 0, ()), c, 0, 0, ())) ∨
    (∃ (k : Int) (a : Nat), e = (4, (0, 0, 0, ()), (0, 0, 0, ()), k, a, ()) ∧ 0 ≤ k ∧ k ≤ iSub .i64 n 1 ∧ finB a = true) := by
  obtain ⟨q, v, c, k, a, ⟨⟩⟩ := e
  unfold entryB at h
  simp only at h
  by_cases h1 : q = 1
  · subst h1
    have e1 : iEq (1 : Int) 1 = true := by decide
    rw [e1] at h
    simp only [cond_true, Bool.and_eq_true, iEq_true] at h
    obtain ⟨ha, hb, hc, hd⟩ := h
    rw [sameV_eq ha, zeroC_eq hb, hc, sameN_zero hd]
    exact .inl rfl
  · rw [iEq_neg h1] at h
    by_cases h2 : q = 2
    · subst h2
      have e1 : iEq (2 : Int) 2 = true := by decide
      rw [e1] at h
      simp only [cond_true, cond_false, Bool.and_eq_true, iEq_true] at h
      obtain ⟨⟨hb, hc, hd⟩, ha⟩ := h
      rw [zeroC_eq hb, hc, sameN_zero hd]
      exact .inr (.inl ⟨v, rfl, ha⟩)
    · rw [iEq_neg h2] at h
      by_cases h3 : q = 3
      · subst h3
        have e1 : iEq (3 : Int) 3 = true := by decide
        rw [e1] at h
        simp only [cond_true, cond_false, Bool.and_eq_true, iEq_true] at h
        obtain ⟨ha, hc, hd⟩ := h
        rw [sameV_eq ha, hc, sameN_zero hd]
        exact .inr (.inr (.inl ⟨c, rfl⟩))
      · rw [iEq_neg h3] at h
        by_cases h4 : q = 4
        · subst h4
          have e1 : iEq (4 : Int) 4 = true := by decide
          rw [e1] at h
          simp only [cond_true, cond_false, Bool.and_eq_true, iLe_true] at h
          obtain ⟨⟨h0, h1⟩, ha, hb, hd⟩ := h
          rw [sameV_eq ha, zeroC_eq hb]
          exact .inr (.inr (.inr ⟨k, a, rfl, h0, h1, hd⟩))
        · rw [iEq_neg h4] at h
          cases h

theorem wrap16i {x : Int} (h : -32768 ≤ x) (h1 : x ≤ 32767) : iWrap .i16 x = x := by simp [iWrap, IntKind.wrap, IntKind.signed, IntKind.bits]; omega

theorem drop1_nil {ws : List (List UInt8)} {a : List UInt8} {r : List (List UInt8)} (h : ws = a :: r) (h' : (ws.drop 1).isEmpty = true) : r = [] := by
  rw [h] at h'
  simpa using h'

noncomputable def countK {A : Type} (r : DRd) (K : Int → DRd → Option A) : Option A :=
  (impl_lineReader_integer r).bind fun y => bif y.2.1.2.1 then K y.1.1 (y.2.1.1, true, y.2.1.2.2) else (impl_within y.1.1 (-32768) 32767).bind fun z => K y.1.1 (y.2.1.1, !z.1.1, y.2.1.2.2)
theorem fix_eq (r : DRd) : impl_readEntry r wFi = countK r fun n1 ra => countK ra fun n2 rb => countK rb fun n3 rc => some (((3, (0, 0, 0, ()), (iWrap .i16 n1, iWrap .i16 n2, iWrap .i16 n3, ()), 0, 0, ()), ()), (rc, ())) := by kernel_rfl

theorem count_step {r : DRd} (h : ∀ w ∈ r.1, w.length ≤ 1048576) : ∃ (n : Int) (r' : DRd), (∀ {A : Type} (K : Int → DRd → Option A), countK r K = K n r') ∧ r'.1 = r.1.drop 1 ∧
    (r'.2.1 = false → r.2.1 = false ∧ (-32768 ≤ n ∧ n ≤ 32767) ∧ ∃ ws, r.1 = Lib.itoa n :: ws) ∧ (∀ x ws, r.2.1 = false → r.1 = Lib.itoa x :: ws → -32768 ≤ x → x ≤ 32767 → n = x ∧ r'.2.1 = false) := by
  obtain ⟨n, r1, e1, p1, q1, b1⟩ := integer_step h
  obtain ⟨ws, f, ⟨⟩⟩ := r1
  cases f with
  | true =>
    refine ⟨n, (ws, true, ()), fun K => ?_, p1, fun hf => absurd (show true = false from hf) (by decide), fun x w h1 h2 h3 h4 => ?_⟩
    · unfold countK
      rw [e1]
      rfl
    · exact absurd (show true = false from (b1 x w h1 h2 (by omega) (by omega)).2) (by decide)
  | false =>
    refine ⟨n, (ws, !(iLe (-32768) n && iLe n 32767), ()), fun K => ?_, p1, fun hf => ?_, fun x w h1 h2 h3 h4 => ?_⟩
    · unfold countK
      rw [e1]
      simp only [Option.bind_some, cond_false]
      rw [within_eq, l00In_ok]
      rfl
    · obtain ⟨f0, w, w1⟩ := q1 rfl
      simp only [Bool.not_eq_false', Bool.and_eq_true, iLe_true] at hf
      exact ⟨f0, hf, w, w1⟩
    · obtain ⟨rfl, -⟩ := b1 x w h1 h2 (by omega) (by omega)
      refine ⟨rfl, ?_⟩
      show (!(iLe (-32768) n && iLe n 32767)) = false
      rw [iLe_pos h3, iLe_pos h4]
      rfl

theorem entry_step (word : List UInt8) {r : DRd} (hall : ∀ w ∈ r.1, w.length ≤ 1048576) (hf : r.2.1 = false) : ∃ (e : DEntry) (r' : DRd), impl_readEntry r word = some ((e, ()), (r', ())) ∧
    (endedB r' = true → e.1 = 0 ∨ (word :: r.1 = entW e ∧ goodE e)) ∧ (∀ e0 n, 0 ≤ n → n ≤ 1000 → entryB n e0 = true → goodE e0 → word :: r.1 = entW e0 → e = e0 ∧ endedB r' = true) := by
  have hws : ∀ (e0 : DEntry) (n : Int), entryB n e0 = true → word :: r.1 = entW e0 → (e0.1 = 1 ∧ word = wTick) ∨ (e0.1 = 2 ∧ word = wMov) ∨ (e0.1 = 3 ∧ word = wFi) ∨ (e0.1 = 4 ∧ word = wRan) := by
    intro e0 n hv hw
    rcases entry_kind hv with rfl | ⟨v, rfl, -⟩ | ⟨c, rfl⟩ | ⟨k, a, rfl, -⟩
    · exact .inl ⟨rfl, (List.cons.inj hw).1⟩
    · exact .inr (.inl ⟨rfl, (List.cons.inj hw).1⟩)
    · exact .inr (.inr (.inl ⟨rfl, (List.cons.inj hw).1⟩))
    · exact .inr (.inr (.inr ⟨rfl, (List.cons.inj hw).1⟩))
  by_cases h1 : word = wTick
  · subst h1
    refine ⟨(1, (0, 0, 0, ()), (0, 0, 0, ()), 0, 0, ()), r, ?_, fun he => .inr ⟨?_, ?_⟩, fun e0 n hn0 hn hv hg hw => ?_⟩
    · unfold impl_readEntry
      rw [show sEq wTick [116, 105, 99, 107] = true from rfl]
      rfl
    · have hem : r.1 = [] := by
        unfold endedB at he
        rw [hf] at he
        simpa using he
      rw [hem]; rfl
    · exact ⟨fun h => absurd h (by decide), fun h => absurd h (by decide), fun h => absurd h (by decide)⟩
    · rcases entry_kind hv with rfl | ⟨v, rfl, -⟩ | ⟨c, rfl⟩ | ⟨k, a, rfl, -⟩
      · refine ⟨rfl, ?_⟩
        have hem : r.1 = [] := (List.cons.inj hw).2
        unfold endedB
        rw [hf, hem]; rfl
      · exact absurd (List.cons.inj hw).1 (by decide)
      · exact absurd (List.cons.inj hw).1 (by decide)
      · exact absurd (List.cons.inj hw).1 (by decide)
  · have s1 : sEq word [116, 105, 99, 107] = false := sEq_neL h1
    by_cases h2 : word = wMov
    · subst h2
      obtain ⟨v, r', e1, p1, q1, b1⟩ := three_step hall
      refine ⟨(2, v, (0, 0, 0, ()), 0, 0, ()), r', ?_, fun he => .inr ?_, fun e0 n hn0 hn hv hg hw => ?_⟩
      · unfold impl_readEntry
        rw [s1, show sEq wMov [109, 111, 118, 101] = true from rfl]
        simp only [cond_true, cond_false]
        show (impl_lineReader_three r).bind _ = _
        rw [e1]
        rfl
      · unfold endedB at he
        simp only [Bool.and_eq_true, Bool.not_eq_true'] at he
        obtain ⟨-, ws, w1, g⟩ := q1 he.1
        have hem : ws = [] := by
          have := he.2
          rw [p1, w1] at this
          simpa [vecW] using this
        rw [w1, hem]
        exact ⟨by rw [List.append_nil]; rfl, fun _ => g, fun h => absurd h (by show ¬ ((2 : Int) = 3); decide), fun h => absurd h (by show ¬ ((2 : Int) = 4); decide)⟩
      · rcases entry_kind hv with rfl | ⟨v0, rfl, -⟩ | ⟨c, rfl⟩ | ⟨k, a, rfl, -⟩
        · exact absurd (List.cons.inj hw).1 (by decide)
        · have hr : r.1 = vecW v0 ++ [] := by rw [List.append_nil]; exact (List.cons.inj hw).2
          obtain ⟨rfl, f1⟩ := b1 v0 [] hf hr (hg.1 rfl)
          refine ⟨rfl, ?_⟩
          unfold endedB
          rw [f1, p1, hr]; rfl
        · exact absurd (List.cons.inj hw).1 (by decide)
        · exact absurd (List.cons.inj hw).1 (by decide)
    · have s2 : sEq word [109, 111, 118, 101] = false := sEq_neL h2
      by_cases h3 : word = wFi
      · subst h3
        obtain ⟨n1, r1, e1, p1, q1, b1⟩ := count_step hall
        obtain ⟨n2, r2, e2, p2, q2, b2⟩ := count_step (r := r1) (fun w hw => hall w (by rw [p1] at hw; exact List.mem_of_mem_drop hw))
        obtain ⟨n3, r3, e3, p3, q3, b3⟩ := count_step (r := r2) (fun w hw => hall w (by rw [p2, p1] at hw; exact List.mem_of_mem_drop (List.mem_of_mem_drop hw)))
        refine ⟨(3, (0, 0, 0, ()), (iWrap .i16 n1, iWrap .i16 n2, iWrap .i16 n3, ()), 0, 0, ()), r3, ?_, fun he => .inr ?_, fun e0 n hn0 hn hv hg hw => ?_⟩
        · rw [fix_eq, e1, e2, e3]; rfl
        · unfold endedB at he
          simp only [Bool.and_eq_true, Bool.not_eq_true'] at he
          obtain ⟨f2, g3, ws3, w3⟩ := q3 he.1
          obtain ⟨f1, g2, ws2, w2⟩ := q2 f2
          obtain ⟨-, g1, ws1, w1⟩ := q1 f1
          have hem : ws3 = [] := by
            have := he.2
            rw [p3] at this
            exact drop1_nil w3 this
          rw [p1, w1] at w2
          simp only [List.drop_succ_cons, List.drop_zero] at w2
          rw [p2, p1, w1, w2] at w3
          simp only [List.drop_succ_cons, List.drop_zero] at w3
          rw [wrap16i g1.1 g1.2, wrap16i g2.1 g2.2, wrap16i g3.1 g3.2, w1, w2, w3, hem]
          exact ⟨rfl, fun h => absurd h (by show ¬ ((3 : Int) = 2); decide), fun _ => ⟨g1, g2, g3⟩, fun h => absurd h (by show ¬ ((3 : Int) = 4); decide)⟩
        · rcases entry_kind hv with rfl | ⟨v0, rfl, -⟩ | ⟨c, rfl⟩ | ⟨k, a0, rfl, k0, k1, -⟩
          · exact absurd (List.cons.inj hw).1 (by decide)
          · exact absurd (List.cons.inj hw).1 (by decide)
          · obtain ⟨c0, c1, c2, ⟨⟩⟩ := c
            obtain ⟨g0, g1, g2⟩ := hg.2.1 rfl
            have hr : r.1 = [Lib.itoa c0, Lib.itoa c1, Lib.itoa c2] := (List.cons.inj hw).2
            obtain ⟨rfl, f1⟩ := b1 c0 _ hf hr g0.1 g0.2
            obtain ⟨rfl, f2⟩ := b2 c1 _ f1 (by rw [p1, hr]; rfl) g1.1 g1.2
            obtain ⟨rfl, f3⟩ := b3 c2 _ f2 (by rw [p2, p1, hr]; rfl) g2.1 g2.2
            rw [wrap16i g0.1 g0.2, wrap16i g1.1 g1.2, wrap16i g2.1 g2.2]
            refine ⟨rfl, ?_⟩
            unfold endedB
            rw [f3, p3, p2, p1, hr]; rfl
          · exact absurd (List.cons.inj hw).1 (by decide)
      · have s3 : sEq word [102, 105, 120] = false := sEq_neL h3
        by_cases h4 : word = wRan
        · subst h4
          obtain ⟨n, r1, e1, p1, q1, b1⟩ := integer_step hall
          obtain ⟨a, r2, e2, p2, q2, b2⟩ := number_step (r := r1) (fun w hw => hall w (by rw [p1] at hw; exact List.mem_of_mem_drop hw))
          refine ⟨(4, (0, 0, 0, ()), (0, 0, 0, ()), n, a, ()), r2, ?_, fun he => .inr ?_, fun e0 m hm0 hm hv hg hw => ?_⟩
          · unfold impl_readEntry
            rw [s1, s2, s3, show sEq wRan [114, 97, 110, 103, 101] = true from rfl]
            simp only [cond_true, cond_false]
            show (impl_lineReader_integer r).bind _ = _
            rw [e1]
            simp only [Option.bind_some]
            show (impl_lineReader_number r1).bind _ = _
            rw [e2]
            rfl
          · unfold endedB at he
            simp only [Bool.and_eq_true, Bool.not_eq_true'] at he
            obtain ⟨f1, ws2, w2, g2⟩ := q2 he.1
            obtain ⟨-, ws1, w1⟩ := q1 f1
            have hem : ws2 = [] := by
              have := he.2
              rw [p2] at this
              exact drop1_nil w2 this
            rw [p1, w1] at w2
            simp only [List.drop_succ_cons, List.drop_zero] at w2
            rw [w1, w2, hem]
            exact ⟨rfl, fun h => absurd h (by show ¬ ((4 : Int) = 2); decide), fun h => absurd h (by show ¬ ((4 : Int) = 3); decide), fun _ => g2⟩
          · rcases entry_kind hv with rfl | ⟨v0, rfl, -⟩ | ⟨c, rfl⟩ | ⟨k, a0, rfl, k0, k1, -⟩
            · exact absurd (List.cons.inj hw).1 (by decide)
            · exact absurd (List.cons.inj hw).1 (by decide)
            · exact absurd (List.cons.inj hw).1 (by decide)
            · have hr : r.1 = [Lib.itoa k, hex8 a0] := (List.cons.inj hw).2
              have hk : k ≤ 999 := by
                rw [iSub_eq (by omega) (by omega)] at k1; omega
              obtain ⟨rfl, f1⟩ := b1 k _ hf hr (by omega) (by omega)
              obtain ⟨rfl, f2⟩ := b2 a0 [] f1 (by rw [p1, hr]; rfl) (hg.2.2 rfl)
              refine ⟨rfl, ?_⟩
              unfold endedB
              rw [f2, p2, p1, hr]; rfl
        · refine ⟨(0, (0, 0, 0, ()), (0, 0, 0, ()), 0, 0, ()), r, ?_, fun _ => .inl rfl, fun e0 n hn0 hn hv hg hw => ?_⟩
          · have s4 : sEq word [114, 97, 110, 103, 101] = false := sEq_neL h4
            unfold impl_readEntry
            rw [s1, s2, s3, s4]
            rfl
          · rcases hws e0 n hv hw with ⟨-, h⟩ | ⟨-, h⟩ | ⟨-, h⟩ | ⟨-, h⟩
            · exact absurd h h1
            · exact absurd h h2
            · exact absurd h h3
            · exact absurd h h4

/-! ### the program's reading of a log -/
def goodL (l : DLog) : Prop := goodV l.2.1 ∧ (∀ v ∈ l.2.2.1, goodV v) ∧ ∀ e ∈ l.2.2.2.1, goodE e
abbrev DRL := (DLog × Int × Unit) × Unit
def badL : DRL := (((0, (0, 0, 0, ()), [], [], ()), 5, ()), ())

theorem need_step {r : DRd} (hall : ∀ w ∈ r.1, w.length ≤ 1048576) (k : List UInt8) : ∃ r' : DRd, impl_lineReader_need r k = some ((), (r', ())) ∧ r'.1 = r.1.drop 1 ∧
    (r'.2.1 = false → r.2.1 = false ∧ ∃ ws, r.1 = k :: ws) ∧ (∀ ws, r.2.1 = false → r.1 = k :: ws → r'.2.1 = false) := by
  obtain ⟨ws, f, ⟨⟩⟩ := r
  unfold impl_lineReader_need
  rw [impl_lineReader_word_ok]
  simp only [Option.bind_some, restOf, wordOf]
  cases ws with
  | nil =>
    cases hq : sEq ([] : List UInt8) k with
    | false =>
      refine ⟨([], true, ()), ?_, rfl, fun h => absurd (show true = false from h) (by decide), fun ws h1 h2 => by cases h2⟩
      have : (([] : List (List UInt8)).getD 0 []) = ([] : List UInt8) := rfl
      rw [this, hq]; rfl
    | true =>
      refine ⟨([], true, ()), ?_, rfl, fun h => absurd (show true = false from h) (by decide), fun ws h1 h2 => by cases h2⟩
      have : (([] : List (List UInt8)).getD 0 []) = ([] : List UInt8) := rfl
      rw [this, hq]; rfl
  | cons w ws =>
    have hg : ((w :: ws).getD 0 []) = w := rfl
    rw [hg]
    cases hq : sEq w k with
    | false =>
      refine ⟨(ws, true, ()), rfl, rfl, fun h => absurd (show true = false from h) (by decide), fun z h1 h2 => ?_⟩
      have : w = k := (List.cons.inj h2).1
      rw [this, sEq_self] at hq
      cases hq
    | true =>
      have hwk : w = k := by simpa [sEq] using hq
      refine ⟨(ws, f, ()), rfl, rfl, fun h => ⟨h, ws, by rw [hwk]⟩, fun z h1 h2 => h1⟩

theorem readLine_ok {s : List UInt8} (hs : s.length ≤ 1048576) : impl_readLine s = some (((splitC 32 s, (false, ())), ()), ()) := by
  unfold impl_readLine
  rw [strings_Split_ok 32 (by omega)]
  rfl

theorem splitC_memL {c : UInt8} {s f : List UInt8} (h : f ∈ splitC c s) : f.length ≤ s.length := by
  have h1 := (List.sublist_flatten_of_mem h).length_le
  rw [splitC_flatten] at h1
  exact Nat.le_trans h1 (List.length_filter_le _ _)

/-- the first line -/
theorem head_step {x : List UInt8} (hx : x.length ≤ 1048576) : ∃ (r1 : DRd) (a : Int) (r2 : DRd) (v : Vec 3 Nat) (r3 : DRd), impl_lineReader_need (splitC 32 x, (false, ())) wLog = some ((), (r1, ())) ∧ impl_lineReader_integer r1 = some ((a, ()), (r2, ())) ∧ impl_lineReader_three r2 = some ((v, ()), (r3, ())) ∧
    (endedB r3 = true → x = headL a v ∧ goodV v) ∧ (∀ a0 v0, x = headL a0 v0 → -999999999 ≤ a0 → a0 ≤ 999999999 → goodV v0 → a = a0 ∧ v = v0 ∧ endedB r3 = true) := by
  have hall : ∀ w ∈ splitC 32 x, w.length ≤ 1048576 := fun w hw => Nat.le_trans (splitC_memL hw) hx
  obtain ⟨r1, e1, p1, q1, b1⟩ := need_step (r := (splitC 32 x, (false, ()))) hall wLog
  have p1 : r1.1 = (splitC 32 x).drop 1 := p1
  obtain ⟨a, r2, e2, p2, q2, b2⟩ := integer_step (r := r1) (fun w hw => hall w (by rw [p1] at hw; exact List.mem_of_mem_drop hw))
  obtain ⟨v, r3, e3, p3, q3, b3⟩ := three_step (r := r2) (fun w hw => hall w (by rw [p2, p1] at hw; exact List.mem_of_mem_drop (List.mem_of_mem_drop hw)))
  refine ⟨r1, a, r2, v, r3, e1, e2, e3, fun he => ?_, fun a0 v0 h0 h1 h2 h3 => ?_⟩
  · unfold endedB at he
    simp only [Bool.and_eq_true, Bool.not_eq_true'] at he
    obtain ⟨f2, ws3, w3, g⟩ := q3 he.1
    obtain ⟨f1, ws2, w2⟩ := q2 f2
    obtain ⟨-, ws1, w1⟩ := q1 f1
    have w1 : splitC 32 x = wLog :: ws1 := w1
    have hem : ws3 = [] := by
      have := he.2
      rw [p3, w3] at this
      simpa [vecW] using this
    rw [p1, w1] at w2
    simp only [List.drop_succ_cons, List.drop_zero] at w2
    rw [p2, p1, w1, w2, hem] at w3
    simp only [List.drop_succ_cons, List.drop_zero, List.append_nil] at w3
    refine ⟨?_, g⟩
    have := join_split 32 x.length x (Nat.le_refl _)
    rw [w1, w2, w3] at this
    exact this.symm
  · have hs : splitC 32 x = wLog :: Lib.itoa a0 :: vecW v0 := by
      rw [h0]
      exact split_join 32 _ (by simp) (headW_free (.inl rfl) a0 v0)
    have f1 := b1 _ rfl hs
    obtain ⟨rfl, f2⟩ := b2 a0 (vecW v0) f1 (by rw [p1, hs]; rfl) h1 h2
    obtain ⟨rfl, f3⟩ := b3 v0 [] f2 (by rw [p2, p1, hs, List.append_nil]; rfl) h3
    refine ⟨rfl, rfl, ?_⟩
    unfold endedB
    rw [f3, p3, p2, p1, hs]; rfl

theorem okG_lines {s : List UInt8} (h : okG s = true) : ∃ x Ls, splitC 10 s = (x :: Ls) ++ [[]] ∧ (splitC 10 s).take (s.count 10) = x :: Ls := by
  unfold okG at h
  simp only [Bool.and_eq_true, iLt_true] at h
  have hl := splitC_length 10 s
  generalize s.count 10 = n at h hl ⊢
  have hlast : (splitC 10 s).getD n [] = [] := by simpa [sEq] using h.2
  rw [getD_of (by omega)] at hlast
  have e : splitC 10 s = (splitC 10 s).take n ++ [[]] := by
    conv => lhs; rw [← List.take_append_drop n (splitC 10 s)]
    congr 1
    rw [← List.getElem_cons_drop (h := by omega), hlast, List.drop_eq_nil_of_le (by omega)]
  cases ht : (splitC 10 s).take n with
  | nil =>
    have := congrArg List.length ht
    rw [List.length_take, List.length_nil] at this
    omega
  | cons x Ls => exact ⟨x, Ls, by rw [e, ht], rfl⟩

/-- a round of the reading -/
theorem round_beacon {line : List UInt8} (hx : line.length ≤ 1048576) {r : List (List UInt8)} (hs : splitC 32 line = wBea :: r) : ∃ (v : Vec 3 Nat) (r' : DRd), impl_lineReader_three (r, (false, ())) = some ((v, ()), (r', ())) ∧ (endedB r' = true → line = beaL v ∧ goodV v) ∧ (∀ v0, line = beaL v0 → goodV v0 → v = v0 ∧ endedB r' = true) := by
  have hall : ∀ w ∈ splitC 32 line, w.length ≤ 1048576 := fun w hw => Nat.le_trans (splitC_memL hw) hx
  obtain ⟨v, r', e1, p1, q1, b1⟩ := three_step (r := (r, (false, ()))) (fun w hw => hall w (by rw [hs]; exact List.mem_cons_of_mem _ hw))
  have p1 : r'.1 = r.drop 3 := p1
  refine ⟨v, r', e1, fun he => ?_, fun v0 h0 hg => ?_⟩
  · unfold endedB at he
    simp only [Bool.and_eq_true, Bool.not_eq_true'] at he
    obtain ⟨-, ws, w1, g⟩ := q1 he.1
    have w1 : r = vecW v ++ ws := w1
    have hem : ws = [] := by
      have := he.2
      rw [p1, w1] at this
      simpa [vecW] using this
    refine ⟨?_, g⟩
    have := join_split 32 line.length line (Nat.le_refl _)
    rw [hs, w1, hem, List.append_nil] at this
    exact this.symm
  · have hs' : splitC 32 line = wBea :: vecW v0 := by
      rw [h0]
      exact split_join 32 _ (by simp) (beaW_free (.inl rfl) v0)
    have hr : r = vecW v0 ++ [] := by
      rw [hs] at hs'
      rw [List.append_nil]
      exact (List.cons.inj hs').2
    obtain ⟨rfl, f1⟩ := b1 v0 [] rfl hr hg
    refine ⟨rfl, ?_⟩
    unfold endedB
    rw [f1, p1, hr]; rfl
theorem round_entry {line : List UInt8} (hx : line.length ≤ 1048576) {w : List UInt8} {r : List (List UInt8)} (hs : splitC 32 line = w :: r) : ∃ (e : DEntry) (r' : DRd), impl_readEntry (r, (false, ())) w = some ((e, ()), (r', ())) ∧ (endedB r' = true → e.1 = 0 ∨ (line = entL e ∧ goodE e)) ∧
    (∀ e0 n, 0 ≤ n → n ≤ 1000 → entryB n e0 = true → goodE e0 → line = entL e0 → e = e0 ∧ endedB r' = true) := by
  have hall : ∀ w ∈ splitC 32 line, w.length ≤ 1048576 := fun w hw => Nat.le_trans (splitC_memL hw) hx
  obtain ⟨e, r', e1, q1, b1⟩ := entry_step w (r := (r, (false, ()))) (fun z hw => hall z (by rw [hs]; exact List.mem_cons_of_mem _ hw)) rfl
  refine ⟨e, r', e1, fun he => ?_, fun e0 n hn0 hn hv hg h0 => ?_⟩
  · rcases q1 he with h | ⟨h, g⟩
    · exact .inl h
    · refine .inr ⟨?_, g⟩
      have := join_split 32 line.length line (Nat.le_refl _)
      rw [hs, show w :: r = entW e from h] at this
      exact this.symm
  · have hs' : splitC 32 line = entW e0 := by
      rw [h0]
      exact split_join 32 _ (entW_ne e0) (entW_free (.inl rfl) e0)
    exact b1 e0 n hn0 hn hv hg (by rw [← hs', hs])

theorem entry_zero {n : Int} {e : DEntry} (h : entryB n e = true) : e.1 ≠ 0 := by
  rcases entry_kind h with rfl | ⟨v, rfl, -⟩ | ⟨c, rfl⟩ | ⟨k, a, rfl, -⟩
  · show (1 : Int) ≠ 0; decide
  · show (2 : Int) ≠ 0; decide
  · show (3 : Int) ≠ 0; decide
  · show (4 : Int) ≠ 0; decide

theorem sized_log {a : Int} {v : Vec 3 Nat} {B : List (Vec 3 Nat)} {E : List DEntry} (hB : B.length ≤ 1048577) (hE : E.length ≤ 1048577) : Sized TyLog ((a, v, B, E, ()) : DLog) := by
  obtain ⟨v0, v1, v2, ⟨⟩⟩ := v
  refine ⟨trivial, ⟨trivial, trivial, trivial, trivial⟩, ⟨?_, fun _ _ => ⟨trivial, trivial, trivial, trivial⟩⟩, ⟨?_, fun _ _ => ⟨trivial, ⟨trivial, trivial, trivial, trivial⟩, ⟨trivial, trivial, trivial, trivial⟩, trivial, trivial, trivial⟩⟩, trivial⟩
  · show B.length ≤ _; omega
  · show E.length ≤ _; omega

theorem take_succ_getElem {α : Type} {l : List α} {i : Nat} (h : i < l.length) : l.take (i + 1) = l.take i ++ [l[i]] := by
  rw [List.take_add_one]
  simp [h]

theorem impl_rest {x : List UInt8} {Ls : List (List UInt8)} {ok : Bool} (hl : Ls.length ≤ 1048576) (hall : ∀ f ∈ Ls, f.length ≤ 1048576) (a : Int) (v : Vec 3 Nat) :
    ∃ w : DRL, run (impl_ReadLog_l11 ((x :: Ls, ok, ()), ())) ((0 : Int), ((a, v, [], [], ()) : DLog), ()) = some w ∧
      (w = badL ∨ ∃ B E, w = (((a, v, B, E, ()), 0, ()), ()) ∧ logB (a, v, B, E, ()) = true ∧ (∀ u ∈ B, goodV u) ∧ (∀ e ∈ E, goodE e) ∧ Ls = B.map beaL ++ E.map entL) := by
  have r := run_inv (f := impl_ReadLog_l11 ((x :: Ls, ok, ()), ())) (fun s => ∃ (i : Nat) (B : List (Vec 3 Nat)) (E : List DEntry) (EL : List (List UInt8)), s = ((i : Int), ((a, v, B, E, ()) : DLog), ()) ∧ i ≤ Ls.length ∧ Ls.take i = B.map beaL ++ EL ∧ EL.length = E.length ∧ (∀ u ∈ B, goodV u) ∧
      (∀ j (h1 : j < E.length) (h2 : j < EL.length), E[j].1 = 0 ∨ (EL[j] = entL E[j] ∧ goodE E[j]))) (fun s => (Ls.length - s.1).toNat)
    (fun w => w = badL ∨ ∃ B E, w = (((a, v, B, E, ()), 0, ()), ()) ∧ logB (a, v, B, E, ()) = true ∧ (∀ u ∈ B, goodV u) ∧ (∀ e ∈ E, goodE e) ∧ Ls = B.map beaL ++ E.map entL) (fun s hI => by
    obtain ⟨i, B, E, EL, rfl, hi, hT, hEL, hB, hE⟩ := hI
    have hlen : B.length + E.length = i := by
      have := congrArg List.length hT
      rw [List.length_take, List.length_append, List.length_map] at this
      omega
    have hlx : ((List.length (x :: Ls)) - 1 : Nat) = Ls.length := by simp
    by_cases hlt : i < Ls.length
    · have e1 : iLt (i : Int) (((List.length (x :: Ls)) - 1 : Nat) : Int) = true := iLt_pos (by rw [hlx]; omega)
      have e2 : inB (i : Int) ((List.length (x :: Ls)) - 1) = true := by rw [hlx]; exact inB_pos hlt
      have e5 : iAdd .i64 (i : Int) 1 = ((i + 1 : Nat) : Int) := iAdd_one hlt (by omega)
      have hm : ((Ls.length : Int) - ((i + 1 : Nat) : Int)).toNat < ((Ls.length : Int) - (i : Int)).toNat := by omega
      have hg : List.getD (x :: Ls) (1 + (i : Int).toNat) [] = Ls[i] := by
        rw [Int.toNat_natCast, Nat.add_comm]
        show Ls.getD i [] = Ls[i]
        exact getD_of hlt
      have hline : (Ls[i]).length ≤ 1048576 := hall _ (List.getElem_mem hlt)
      have hrl := readLine_ok hline
      obtain ⟨w0, r0, hs⟩ : ∃ w0 r0, splitC 32 Ls[i] = w0 :: r0 := by
        cases h : splitC 32 Ls[i] with
        | nil => exact absurd h (splitC_ne 32 _)
        | cons w0 r0 => exact ⟨w0, r0, rfl⟩
      have hwd : impl_lineReader_word (w0 :: r0, (false, ())) = some ((w0, ()), ((r0, (false, ())), ())) := impl_lineReader_word_ok _
      have hr1 : room (B.length + 1) 12 = true := room_pos (by omega)
      have hr2 : room (E.length + 1) 48 = true := room_pos (by omega)
      have entry : (∃ y, (impl_readEntry (r0, (false, ())) w0).bind (fun y49 => bif room (E.length + 1) 48 then (impl_lineReader_ended (y49.2.1.1, y49.2.1.2)).bind fun y51 => bif (! y51.1.1) then Option.map Sum.inr (some badL) else some (Sum.inl (iAdd .i64 (i : Int) 1, ((a, v, B, E ++ [y49.1.1], ()) : DLog), ())) else none) = some y ∧
          ((∃ s', y = .inl s' ∧ (∃ (i : Nat) (B : List (Vec 3 Nat)) (E : List DEntry) (EL : List (List UInt8)), s' = ((i : Int), ((a, v, B, E, ()) : DLog), ()) ∧ i ≤ Ls.length ∧ Ls.take i = B.map beaL ++ EL ∧ EL.length = E.length ∧ (∀ u ∈ B, goodV u) ∧
      (∀ j (h1 : j < E.length) (h2 : j < EL.length), E[j].1 = 0 ∨ (EL[j] = entL E[j] ∧ goodE E[j]))) ∧ ((Ls.length : Int) - s'.1).toNat < ((Ls.length : Int) - (i : Int)).toNat) ∨ y = .inr badL)) := by
        obtain ⟨e, r', k1, k2, -⟩ := round_entry hline hs
        rw [k1]
        simp only [Option.bind_some, hr2, cond_true]
        have hen : impl_lineReader_ended (r'.1, r'.2) = some ((endedB r', ()), ()) := impl_lineReader_ended_ok r'
        rw [hen]
        simp only [Option.bind_some]
        cases hend : endedB r' with
        | false => exact ⟨_, rfl, .inr rfl⟩
        | true =>
          refine ⟨_, rfl, .inl ⟨_, rfl, ⟨i + 1, B, E ++ [e], EL ++ [Ls[i]], by rw [e5], by omega, ?_, by simp [hEL], hB, fun j h1 h2 => ?_⟩, ?_⟩⟩
          · rw [take_succ_getElem hlt, hT, List.append_assoc]
          · by_cases hj : j < E.length
            · rw [List.getElem_append_left hj, List.getElem_append_left (by omega)]
              exact hE j hj (by omega)
            · have hje : j = E.length := by simp at h1; omega
              subst hje
              rw [List.getElem_append_right (Nat.le_refl _), List.getElem_append_right (by omega)]
              simp only [Nat.sub_self, List.getElem_singleton]
              exact k2 hend
          · rw [e5]; exact hm
      unfold impl_ReadLog_l11
      simp only
      rw [e1, e2, hg, hrl]
      simp only [cond_true, Option.bind_some]
      rw [hs, hwd]
      simp only [Option.bind_some]
      cases hbw : sEq w0 [98, 101, 97, 99, 111, 110] with
      | false =>
        simp only [cond_false]
        obtain ⟨y, hy, h⟩ := entry
        rcases h with ⟨s', rfl, h1, h2⟩ | rfl
        · exact .inl ⟨s', hy, h1, h2⟩
        · exact .inr ⟨badL, hy, .inl rfl⟩
      | true =>
        simp only [cond_true]
        cases hz : iEq (lenI E) 0 with
        | false =>
          simp only [cond_false]
          obtain ⟨y, hy, h⟩ := entry
          rcases h with ⟨s', rfl, h1, h2⟩ | rfl
          · exact .inl ⟨s', hy, h1, h2⟩
          · exact .inr ⟨badL, hy, .inl rfl⟩
        | true =>
          have hE0 : E = [] := by
            have : (E.length : Int) = 0 := by simpa [iEq, lenI] using hz
            exact List.length_eq_zero_iff.1 (by omega)
          have hEL0 : EL = [] := List.length_eq_zero_iff.1 (by rw [hEL, hE0]; rfl)
          have hw0 : w0 = wBea := by
            have : w0 = [98, 101, 97, 99, 111, 110] := by simpa [sEq] using hbw
            exact this
          obtain ⟨u, r', k1, k2, -⟩ := round_beacon hline (r := r0) (by rw [hs, hw0])
          simp only [cond_true]
          rw [k1]
          simp only [Option.bind_some, hr1, cond_true]
          have hen : impl_lineReader_ended (r'.1, r'.2) = some ((endedB r', ()), ()) := impl_lineReader_ended_ok r'
          rw [hen]
          simp only [Option.bind_some]
          cases hend : endedB r' with
          | false => exact .inr ⟨badL, rfl, .inl rfl⟩
          | true =>
            obtain ⟨k3, k4⟩ := k2 hend
            refine .inl ⟨_, rfl, ⟨i + 1, B ++ [u], E, EL, by rw [e5], by omega, ?_, hEL, fun z hz => ?_, hE⟩, ?_⟩
            · rw [take_succ_getElem hlt, hT, hEL0, List.append_nil, List.append_nil, List.map_append, k3]; rfl
            · rcases List.mem_append.1 hz with h | h
              · exact hB z h
              · rw [List.mem_singleton] at h; rw [h]; exact k4
            · show ((Ls.length : Int) - iAdd .i64 (i : Int) 1).toNat < _
              rw [e5]; exact hm
    · right
      have hil : i = Ls.length := by omega
      have e1 : iLt (i : Int) (((List.length (x :: Ls)) - 1 : Nat) : Int) = false := iLt_neg (by rw [hlx]; omega)
      have hv := impl_ValidLog_ok ((a, v, B, E, ()) : DLog) (sized_log (by omega) (by omega))
      unfold impl_ReadLog_l11
      simp only
      rw [e1]
      simp only [cond_false, hv, Option.bind_some]
      cases hb : logB ((a, v, B, E, ()) : DLog) with
      | false => exact ⟨badL, rfl, .inl rfl⟩
      | true =>
        have hb' := hb
        unfold logB at hb'
        simp only [Bool.and_eq_true, List.all_eq_true] at hb'
        have hE' : ∀ j (h1 : j < E.length) (h2 : j < EL.length), EL[j] = entL E[j] ∧ goodE E[j] := fun j h1 h2 => (hE j h1 h2).resolve_left (entry_zero (hb'.2.2 _ (List.getElem_mem h1)))
        refine ⟨_, rfl, .inr ⟨B, E, rfl, hb, hB, fun e he => ?_, ?_⟩⟩
        · obtain ⟨j, hj, rfl⟩ := List.getElem_of_mem he
          exact (hE' j hj (by omega)).2
        · have : Ls = Ls.take i := by rw [hil, List.take_length]
          rw [this, hT]
          congr 1
          apply List.ext_getElem
          · rw [List.length_map]; exact hEL
          · intro j h1 h2
            rw [List.getElem_map]
            exact (hE' j (by rw [List.length_map] at h2; exact h2) h1).1) (s := ((0 : Int), ((a, v, [], [], ()) : DLog), ())) ⟨0, [], [], [], rfl, Nat.zero_le _, rfl, rfl, (fun u hu => absurd hu (by simp)), (fun j h1 _ => absurd h1 (by simp))⟩
  exact r

theorem impl_back {x : List UInt8} {ok : Bool} {a : Int} {v : Vec 3 Nat} {B0 : List (Vec 3 Nat)} {E0 : List DEntry} (hv : logB (a, v, B0, E0, ()) = true) (hB : ∀ u ∈ B0, goodV u) (hE : ∀ e ∈ E0, goodE e) (hall : ∀ f ∈ B0.map beaL ++ E0.map entL, f.length ≤ 1048576) :
    run (impl_ReadLog_l11 ((x :: (B0.map beaL ++ E0.map entL), ok, ()), ())) ((0 : Int), ((a, v, [], [], ()) : DLog), ()) = some (((a, v, B0, E0, ()), 0, ()), ()) := by
  have hv' := hv
  unfold logB frameB at hv'
  simp only [Bool.and_eq_true, List.all_eq_true, iLe_true, lenI_eq] at hv'
  obtain ⟨⟨-, -, hb6, -⟩, he1200, heach⟩ := hv'
  have hlx : ((List.length (x :: (B0.map beaL ++ E0.map entL))) - 1 : Nat) = B0.length + E0.length := by simp
  have common : ∀ (i : Nat), i < B0.length + E0.length → ∃ line w0 r0, (B0.map beaL ++ E0.map entL)[i]? = some line ∧ iLt (i : Int) (((List.length (x :: (B0.map beaL ++ E0.map entL))) - 1 : Nat) : Int) = true ∧ inB (i : Int) ((List.length (x :: (B0.map beaL ++ E0.map entL))) - 1) = true ∧ iAdd .i64 (i : Int) 1 = ((i + 1 : Nat) : Int) ∧
      List.getD (x :: (B0.map beaL ++ E0.map entL)) (1 + (i : Int).toNat) [] = line ∧ line.length ≤ 1048576 ∧ splitC 32 line = w0 :: r0 := by
    intro i hi
    have hi' : i < (B0.map beaL ++ E0.map entL).length := by simp; omega
    have hline : ((B0.map beaL ++ E0.map entL)[i]).length ≤ 1048576 := hall _ (List.getElem_mem hi')
    cases h : splitC 32 (B0.map beaL ++ E0.map entL)[i] with
    | nil => exact absurd h (splitC_ne 32 _)
    | cons w0 r0 =>
      refine ⟨_, w0, r0, List.getElem?_eq_getElem hi', iLt_pos (by rw [hlx]; omega), by rw [hlx]; exact inB_pos hi, (iAdd_eq (by omega) (by omega)).trans (by omega), ?_, hline, h⟩
      rw [Int.toNat_natCast, Nat.add_comm]
      show (B0.map beaL ++ E0.map entL).getD i [] = _
      exact getD_of hi'
  have phase2 : ∀ (d j : Nat), j + d = E0.length → run (impl_ReadLog_l11 ((x :: (B0.map beaL ++ E0.map entL), ok, ()), ())) (((B0.length + j : Nat) : Int), ((a, v, B0, E0.take j, ()) : DLog), ()) = some (((a, v, B0, E0, ()), 0, ()), ()) := by
    intro d
    induction d with
    | zero =>
      intro j hj
      have e1 : iLt ((B0.length + j : Nat) : Int) (((List.length (x :: (B0.map beaL ++ E0.map entL))) - 1 : Nat) : Int) = false := iLt_neg (by rw [hlx]; omega)
      have ht : E0.take j = E0 := by rw [show j = E0.length by omega, List.take_length]
      have hvl := impl_ValidLog_ok ((a, v, B0, E0, ()) : DLog) (sized_log (by omega) (by omega))
      refine run_done ?_
      unfold impl_ReadLog_l11
      simp only
      rw [e1, ht]
      simp only [cond_false, hvl, Option.bind_some, hv]
      rfl
    | succ d ih =>
      intro j hj
      have hjE : j < E0.length := by omega
      obtain ⟨line, w0, r0, hl, e1, e2, e5, hg, hlen, hs⟩ := common (B0.length + j) (by omega)
      have hline : line = entL E0[j] := by
        rw [List.getElem?_append_right (by simp)] at hl
        simp [hjE] at hl
        exact hl.symm
      obtain ⟨e, r', k1, -, k3⟩ := round_entry hlen hs
      obtain ⟨rfl, hend⟩ := k3 E0[j] (lenI B0) (by rw [lenI_eq]; omega) (by rw [lenI_eq]; omega) (heach _ (List.getElem_mem hjE)) (hE _ (List.getElem_mem hjE)) hline
      have hr2 : room ((E0.take j).length + 1) 48 = true := room_pos (by rw [List.length_take]; omega)
      have hrl := readLine_ok hlen
      have hwd : impl_lineReader_word (w0 :: r0, (false, ())) = some ((w0, ()), ((r0, (false, ())), ())) := impl_lineReader_word_ok _
      have hen : impl_lineReader_ended (r'.1, r'.2) = some ((endedB r', ()), ()) := impl_lineReader_ended_ok r'
      have hw : sEq w0 [98, 101, 97, 99, 111, 110] = false := by
        refine sEq_neL ?_
        rintro rfl
        have hs' : splitC 32 line = entW E0[j] := by
          rw [hline]
          exact split_join 32 _ (entW_ne _) (entW_free (.inl rfl) _)
        rw [hs] at hs'
        rcases entry_kind (heach _ (List.getElem_mem hjE)) with h | ⟨u, h, -⟩ | ⟨c, h⟩ | ⟨k, q, h, -⟩ <;> rw [h] at hs' <;> exact absurd (List.cons.inj hs').1 (by decide)
      have st : impl_ReadLog_l11 ((x :: (B0.map beaL ++ E0.map entL), ok, ()), ()) (((B0.length + j : Nat) : Int), ((a, v, B0, E0.take j, ()) : DLog), ()) = some (.inl (((B0.length + (j + 1) : Nat) : Int), ((a, v, B0, E0.take (j + 1), ()) : DLog), ())) := by
        unfold impl_ReadLog_l11
        simp only
        rw [e1, e2, hg, hrl]
        simp only [cond_true, Option.bind_some]
        rw [hs, hwd]
        simp only [Option.bind_some, hw, cond_false]
        rw [k1]
        simp only [Option.bind_some, hr2, cond_true]
        rw [hen]
        simp only [Option.bind_some, hend, Bool.not_true, cond_false]
        rw [e5, take_succ_getElem hjE]
        rfl
      rw [run_step st]
      exact ih (j + 1) (by omega)
  have phase1 : ∀ (d i : Nat), i + d = B0.length → run (impl_ReadLog_l11 ((x :: (B0.map beaL ++ E0.map entL), ok, ()), ())) ((i : Int), ((a, v, B0.take i, [], ()) : DLog), ()) = some (((a, v, B0, E0, ()), 0, ()), ()) := by
    intro d
    induction d with
    | zero =>
      intro i hi
      have := phase2 E0.length 0 (by omega)
      rw [Nat.add_zero, List.take_zero] at this
      rw [show i = B0.length by omega, List.take_length]
      exact this
    | succ d ih =>
      intro i hi
      have hiB : i < B0.length := by omega
      obtain ⟨line, w0, r0, hl, e1, e2, e5, hg, hlen, hs⟩ := common i (by omega)
      have hline : line = beaL B0[i] := by
        rw [List.getElem?_append_left (by simp; omega)] at hl
        simp [hiB] at hl
        exact hl.symm
      have hs' : splitC 32 line = wBea :: vecW B0[i] := by
        rw [hline]
        exact split_join 32 _ (by simp) (beaW_free (.inl rfl) _)
      have hw0 : w0 = wBea := by rw [hs] at hs'; exact (List.cons.inj hs').1
      subst hw0
      obtain ⟨u, r', k1, -, k3⟩ := round_beacon hlen hs
      obtain ⟨rfl, hend⟩ := k3 B0[i] hline (hB _ (List.getElem_mem hiB))
      have hr1 : room ((B0.take i).length + 1) 12 = true := room_pos (by rw [List.length_take]; omega)
      have hrl := readLine_ok hlen
      have hwd : impl_lineReader_word (wBea :: r0, (false, ())) = some ((wBea, ()), ((r0, (false, ())), ())) := impl_lineReader_word_ok _
      have hen : impl_lineReader_ended (r'.1, r'.2) = some ((endedB r', ()), ()) := impl_lineReader_ended_ok r'
      have hw : sEq wBea [98, 101, 97, 99, 111, 110] = true := rfl
      have hz : iEq (lenI ([] : List DEntry)) 0 = true := rfl
      have st : impl_ReadLog_l11 ((x :: (B0.map beaL ++ E0.map entL), ok, ()), ()) ((i : Int), ((a, v, B0.take i, [], ()) : DLog), ()) = some (.inl (((i + 1 : Nat) : Int), ((a, v, B0.take (i + 1), [], ()) : DLog), ())) := by
        unfold impl_ReadLog_l11
        simp only
        rw [e1, e2, hg, hrl]
        simp only [cond_true, Option.bind_some]
        rw [hs, hwd]
        simp only [Option.bind_some, hw, cond_true, hz]
        rw [k1]
        simp only [Option.bind_some, hr1, cond_true]
        rw [hen]
        simp only [Option.bind_some, hend, Bool.not_true, cond_false]
        rw [e5, take_succ_getElem hiB]
      rw [run_step st]
      exact ih (i + 1) (by omega)
  exact phase1 B0.length 0 (by omega)

theorem linesT_mem {Ls : List (List UInt8)} {f : List UInt8} (h : f ∈ Ls) : f.length ≤ (linesT Ls).length := by
  unfold linesT
  have h1 : (f ++ [10]).Sublist (Ls.flatMap fun x => x ++ [10]) := by
    rw [List.flatMap_def]
    exact List.sublist_flatten_of_mem (List.mem_map.2 ⟨f, h, rfl⟩)
  have := h1.length_le
  rw [List.length_append] at this
  exact Nat.le_trans (Nat.le_add_right _ _) this

/-- the program's reading -/
theorem impl_ReadLog_ok {s : List UInt8} (hs : s.length ≤ 1048576) : ∃ w : DRL, impl_ReadLog s = some w ∧ (w = badL ∨ ∃ l : DLog, w = ((l, 0, ()), ()) ∧ logB l = true ∧ goodL l ∧ s = logT l) ∧ (∀ l : DLog, s = logT l → logB l = true → goodL l → w = ((l, 0, ()), ())) := by
  have hlo := impl_linesOf_ok hs
  have hlen : (splitC 10 s).length ≤ 1048577 := by
    rw [splitC_length]
    have := List.count_le_length (a := (10 : UInt8)) (l := s)
    omega
  unfold impl_ReadLog
  rw [hlo]
  simp only [Option.bind_some]
  cases hok : okG s with
  | false =>
    refine ⟨badL, rfl, .inl rfl, fun l hl _ _ => ?_⟩
    exfalso
    have h1 := logT_split l
    rw [← hl] at h1
    have h2 := splitC_length 10 s
    rw [h1] at h2
    have h3 : okG s = true := by
      unfold okG
      have hc : s.count 10 = (logL l).length := by rw [List.length_append] at h2; simp at h2; omega
      have hpos : 0 < (logL l).length := by unfold logL; simp
      rw [iLt_pos (by omega), h1, hc]
      simp [List.getD_eq_getElem?_getD, sEq]
    rw [h3] at hok
    cases hok
  | true =>
    obtain ⟨x, Ls, h1, h2⟩ := okG_lines hok
    have hsL : s = linesT (x :: Ls) := lines_of h1
    have hmem : ∀ f ∈ x :: Ls, f.length ≤ 1048576 := fun f hf => Nat.le_trans (linesT_mem hf) (by rw [← hsL]; exact hs)
    have hLs : Ls.length ≤ 1048576 := by
      have := congrArg List.length h1
      simp at this
      omega
    rw [h2]
    have i0 : inB 0 (x :: Ls).length = true := inB_pos (i := 0) (by simp)
    have g0 : List.getD (x :: Ls) 0 [] = x := rfl
    have s1 : inS 1 (((x :: Ls).length : Nat) : Int) (x :: Ls).length = true := by unfold inS; simp; omega
    have hrl := readLine_ok (hmem x (by simp))
    obtain ⟨r1, a, r2, v, r3, e1, e2, e3, k1, k2⟩ := head_step (hmem x (by simp))
    have hen : impl_lineReader_ended (r3.1, r3.2) = some ((endedB r3, ()), ()) := impl_lineReader_ended_ok r3
    simp only [Bool.not_true, cond_false]
    rw [i0, g0, s1, hrl]
    simp only [cond_true, Option.bind_some]
    rw [show impl_lineReader_need (splitC 32 x, (false, ())) [108, 111, 103] = some ((), (r1, ())) from e1]
    simp only [Option.bind_some]
    rw [show impl_lineReader_integer (r1.1, r1.2) = some ((a, ()), (r2, ())) from e2]
    simp only [Option.bind_some]
    rw [show impl_lineReader_three (r2.1, r2.2) = some ((v, ()), (r3, ())) from e3]
    simp only [Option.bind_some]
    rw [hen]
    simp only [Option.bind_some]
    cases hend : endedB r3 with
    | false =>
      refine ⟨badL, rfl, .inl rfl, fun l hl hb hg => ?_⟩
      exfalso
      have h3 := logT_split l
      rw [← hl, h1] at h3
      have h4 := List.append_cancel_right h3
      have h5 : x = headL l.1 l.2.1 := (List.cons.inj h4).1
      have hb' := hb
      unfold logB frameB at hb'
      simp only [Bool.and_eq_true, iLe_true] at hb'
      have := (k2 _ _ h5 (by omega) (by omega) hg.1).2.2
      rw [this] at hend
      cases hend
    | true =>
      obtain ⟨hx, hgv⟩ := k1 hend
      simp only [Bool.not_true, cond_false]
      obtain ⟨w, hw, hcase⟩ := impl_rest (x := x) (ok := true) hLs (fun f hf => hmem f (List.mem_cons_of_mem _ hf)) a v
      refine ⟨w, hw, ?_, fun l hl hb hg => ?_⟩
      · rcases hcase with h | ⟨B, E, rfl, hb, hB, hE, hL⟩
        · exact .inl h
        · refine .inr ⟨(a, v, B, E, ()), rfl, hb, ⟨hgv, hB, hE⟩, ?_⟩
          rw [hsL]
          unfold logT logL
          rw [hx, hL]
      · have h3 := logT_split l
        rw [← hl, h1] at h3
        have h4 := List.append_cancel_right h3
        obtain ⟨h5, h6⟩ := List.cons.inj h4
        have hb' := hb
        unfold logB frameB at hb'
        simp only [Bool.and_eq_true, iLe_true] at hb'
        obtain ⟨ha, hvv, -⟩ := k2 _ _ h5 (by omega) (by omega) hg.1
        obtain ⟨la, lv, lB, lE, ⟨⟩⟩ := l
        simp only at ha hvv h6
        subst ha; subst hvv
        have h6' : Ls = lB.map beaL ++ lE.map entL := h6
        subst h6'
        have := impl_back (x := x) (ok := true) hb hg.2.1 hg.2.2 (fun f hf => hmem f (List.mem_cons_of_mem _ hf))
        rw [hw] at this
        exact Option.some.inj this
end Go.Proofs.YtdmaamakckochaaGreatDoor
