/- Functions of the program and of the reference in plain terms. -/
import Derived.Test.YtildomllnnnofaaDoorP10
namespace Go.Proofs.YtildomllnnnofaaDoor
open Go Go.Tm
set_option linter.unusedVariables false
set_option linter.unusedSimpArgs false
set_option linter.unusedSectionVars false
/-! ### texts out of words and lines -/
def joinC (c : UInt8) : List (List UInt8) → List UInt8
  | [] => []
  | [w] => w
  | w :: v :: r => w ++ c :: joinC c (v :: r)
theorem join_split (c : UInt8) : ∀ (n : Nat) (s : List UInt8), s.length ≤ n → joinC c (splitC c s) = s := by
  intro n
  induction n with
  | zero =>
    intro s h
    have : s = [] := List.length_eq_zero_iff.1 (by omega)
    subst this; rfl
  | succ n ih =>
    intro s h
    rcases cut_first c s with hf | ⟨p, r, rfl, hf⟩
    · rw [splitC_free hf]; rfl
    · rw [splitC_cut r hf]
      have hl : r.length ≤ n := by simp at h; omega
      cases hr : splitC c r with
      | nil => exact absurd hr (splitC_ne c r)
      | cons x y =>
        show p ++ c :: joinC c (x :: y) = _
        rw [← hr, ih r hl]
theorem split_join (c : UInt8) : ∀ ws : List (List UInt8), ws ≠ [] → (∀ w ∈ ws, c ∉ w) → splitC c (joinC c ws) = ws
  | [], h, _ => absurd rfl h
  | [w], _, h => splitC_free (h w (by simp))
  | w :: v :: r, _, h => by
    show splitC c (w ++ c :: joinC c (v :: r)) = _
    rw [splitC_cut _ (h w (by simp)), split_join c (v :: r) (by simp) (fun x hx => h x (List.mem_cons_of_mem _ hx))]
theorem join_free {c d : UInt8} (hcd : d ≠ c) : ∀ ws : List (List UInt8), (∀ w ∈ ws, d ∉ w) → d ∉ joinC c ws
  | [], _ => by simp [joinC]
  | [w], h => h w (by simp)
  | w :: v :: r, h => by
    show d ∉ w ++ c :: joinC c (v :: r)
    intro hd
    rcases List.mem_append.1 hd with hd | hd
    · exact h w (by simp) hd
    · rcases List.mem_cons.1 hd with hd | hd
      · exact hcd hd
      · exact join_free hcd (v :: r) (fun x hx => h x (List.mem_cons_of_mem _ hx)) hd

def linesT (Ls : List (List UInt8)) : List UInt8 := Ls.flatMap fun x => x ++ [10]
theorem split_lines : ∀ Ls : List (List UInt8), (∀ x ∈ Ls, (10 : UInt8) ∉ x) → splitC 10 (linesT Ls) = Ls ++ [[]]
  | [], _ => rfl
  | x :: Ls, h => by
    have e : linesT (x :: Ls) = x ++ 10 :: linesT Ls := by
      unfold linesT; rw [List.flatMap_cons]; simp
    rw [e, splitC_cut _ (h x (by simp)), split_lines Ls (fun y hy => h y (List.mem_cons_of_mem _ hy))]
    rfl
theorem join_lines : ∀ Ls : List (List UInt8), joinC 10 (Ls ++ [[]]) = linesT Ls
  | [] => rfl
  | x :: Ls => by
    have e : linesT (x :: Ls) = x ++ 10 :: linesT Ls := by
      unfold linesT; rw [List.flatMap_cons]; simp
    rw [e, ← join_lines Ls]
    cases Ls <;> rfl
theorem lines_of {s : List UInt8} {Ls : List (List UInt8)} (h : splitC 10 s = Ls ++ [[]]) : s = linesT Ls := by
  rw [← join_lines, ← h, join_split 10 s.length s (Nat.le_refl _)]

/-! ### a log's words -/
def hex8 (a : Nat) : List UInt8 := hexP 8 (bitsOf a)
def vecW (v : Vec 3 Nat) : List (List UInt8) := [hex8 v.1, hex8 v.2.1, hex8 v.2.2.1]
def wLog : List UInt8 := [108, 111, 103]
def wBea : List UInt8 := [98, 101, 97, 99, 111, 110]
def wTick : List UInt8 := [116, 105, 99, 107]
def wMov : List UInt8 := [109, 111, 118, 101]
def wFi : List UInt8 := [102, 105, 120]
def wRan : List UInt8 := [114, 97, 110, 103, 101]
def entW (e : DEntry) : List (List UInt8) :=
  bif iEq e.1 1 then [wTick] else bif iEq e.1 2 then wMov :: vecW e.2.1 else bif iEq e.1 3 then [wFi, Lib.itoa e.2.2.1.1, Lib.itoa e.2.2.1.2.1, Lib.itoa e.2.2.1.2.2.1] else [wRan, Lib.itoa e.2.2.2.1, hex8 e.2.2.2.2.1]
def headL (a : Int) (v : Vec 3 Nat) : List UInt8 := joinC 32 (wLog :: Lib.itoa a :: vecW v)
def beaL (v : Vec 3 Nat) : List UInt8 := joinC 32 (wBea :: vecW v)
def entL (e : DEntry) : List UInt8 := joinC 32 (entW e)
def logL (l : DLog) : List (List UInt8) := headL l.1 l.2.1 :: (l.2.2.1.map beaL ++ l.2.2.2.1.map entL)
def logT (l : DLog) : List UInt8 := linesT (logL l)

theorem hexC_free {c : UInt8} (hc : c = 32 ∨ c = 10) {d : Nat} (h : d < 16) : hexC d ≠ c := by
  have key : ∀ d : Fin 16, hexC d.val ≠ 32 ∧ hexC d.val ≠ 10 := by decide
  rcases hc with rfl | rfl
  · exact (key ⟨d, h⟩).1
  · exact (key ⟨d, h⟩).2
theorem hexP_free {c : UInt8} (hc : c = 32 ∨ c = 10) : ∀ k n, c ∉ hexP k n
  | 0, _ => by simp [hexP]
  | k + 1, n => by
    rw [hexP]
    intro h
    rcases List.mem_append.1 h with h | h
    · exact hexP_free hc k _ h
    · rw [List.mem_singleton] at h
      exact hexC_free hc (Nat.mod_lt n (by decide)) h.symm
theorem itoa_free {c : UInt8} (hc : c = 32 ∨ c = 10) (n : Int) : c ∉ Lib.itoa n := by
  have hd : ∀ u, c ∉ Lib.decDigits u := fun u => by
    rcases hc with rfl | rfl
    · exact digits_free rfl u
    · exact digits_free rfl u
  unfold Lib.itoa
  split
  · intro h
    rcases List.mem_cons.1 h with h | h
    · rcases hc with rfl | rfl <;> exact absurd h (by decide)
    · exact hd _ h
  · exact hd _
theorem vecW_free {c : UInt8} (hc : c = 32 ∨ c = 10) (v : Vec 3 Nat) : ∀ w ∈ vecW v, c ∉ w := by
  intro w hw
  unfold vecW at hw
  simp only [List.mem_cons, List.mem_nil_iff, or_false] at hw
  rcases hw with rfl | rfl | rfl <;> exact hexP_free hc 8 _
theorem word_freeL {c : UInt8} (hc : c = 32 ∨ c = 10) {w : List UInt8} (h : w = wLog ∨ w = wBea ∨ w = wTick ∨ w = wMov ∨ w = wFi ∨ w = wRan) : c ∉ w := by
  rcases hc with rfl | rfl <;> rcases h with rfl | rfl | rfl | rfl | rfl | rfl <;> decide
theorem headW_free {c : UInt8} (hc : c = 32 ∨ c = 10) (a : Int) (v : Vec 3 Nat) : ∀ w ∈ wLog :: Lib.itoa a :: vecW v, c ∉ w := by
  intro w hw
  rcases List.mem_cons.1 hw with rfl | hw
  · exact word_freeL hc (.inl rfl)
  · rcases List.mem_cons.1 hw with rfl | hw
    · exact itoa_free hc a
    · exact vecW_free hc v w hw
theorem beaW_free {c : UInt8} (hc : c = 32 ∨ c = 10) (v : Vec 3 Nat) : ∀ w ∈ wBea :: vecW v, c ∉ w := by
  intro w hw
  rcases List.mem_cons.1 hw with rfl | hw
  · exact word_freeL hc (.inr (.inl rfl))
  · exact vecW_free hc v w hw
theorem entW_free {c : UInt8} (hc : c = 32 ∨ c = 10) (e : DEntry) : ∀ w ∈ entW e, c ∉ w := by
  intro w hw
  unfold entW at hw
  generalize iEq e.1 1 = b1 at hw
  generalize iEq e.1 2 = b2 at hw
  generalize iEq e.1 3 = b3 at hw
  cases b1 with
  | true =>
    simp only [cond_true, List.mem_singleton] at hw
    subst hw
    exact word_freeL hc (.inr (.inr (.inl rfl)))
  | false =>
    cases b2 with
    | true =>
      rcases List.mem_cons.1 hw with rfl | hw
      · exact word_freeL hc (.inr (.inr (.inr (.inl rfl))))
      · exact vecW_free hc _ w hw
    | false =>
      cases b3 with
      | true =>
        simp only [cond_true, cond_false, List.mem_cons, List.mem_nil_iff, or_false] at hw
        rcases hw with rfl | rfl | rfl | rfl
        · exact word_freeL hc (.inr (.inr (.inr (.inr (.inl rfl)))))
        · exact itoa_free hc _
        · exact itoa_free hc _
        · exact itoa_free hc _
      | false =>
        simp only [cond_false, List.mem_cons, List.mem_nil_iff, or_false] at hw
        rcases hw with rfl | rfl | rfl
        · exact word_freeL hc (.inr (.inr (.inr (.inr (.inr rfl)))))
        · exact itoa_free hc _
        · exact hexP_free hc 8 _
theorem entW_ne (e : DEntry) : entW e ≠ [] := by
  unfold entW
  cases iEq e.1 1 <;> cases iEq e.1 2 <;> cases iEq e.1 3 <;> simp
theorem logL_free (l : DLog) : ∀ x ∈ logL l, (10 : UInt8) ∉ x := by
  intro x hx
  rcases List.mem_cons.1 hx with rfl | hx
  · exact join_free (by decide) _ (headW_free (.inr rfl) _ _)
  · rcases List.mem_append.1 hx with hx | hx
    · obtain ⟨v, _, rfl⟩ := List.mem_map.1 hx
      exact join_free (by decide) _ (beaW_free (.inr rfl) _)
    · obtain ⟨e, _, rfl⟩ := List.mem_map.1 hx
      exact join_free (by decide) _ (entW_free (.inr rfl) _)
theorem logT_split (l : DLog) : splitC 10 (logT l) = logL l ++ [[]] := split_lines _ (logL_free l)

/-! ### the line reader -/
def goodN (a : Nat) : Prop := numR (hex8 a) = some a
theorem numR_good {s : List UInt8} {a : Nat} (h : numR s = some a) : hex8 a = s ∧ goodN a := by
  have e : hex8 a = s := (numR_text h).2
  exact ⟨e, by unfold goodN; rw [e]; exact h⟩
def goodV (v : Vec 3 Nat) : Prop := goodN v.1 ∧ goodN v.2.1 ∧ goodN v.2.2.1

theorem wordOf_short {r : DRd} (h : ∀ w ∈ r.1, w.length ≤ 1048576) : (wordOf r).length ≤ 1048576 := by
  obtain ⟨ws, f⟩ := r
  cases ws with
  | nil => exact Nat.zero_le _
  | cons w ws => exact h w (by simp)

theorem parse_itoa {n : Int} (h : -999999999 ≤ n) (h1 : n ≤ 999999999) : parseInt64 (Lib.itoa n) = (n, true) := by
  by_cases h0 : 0 ≤ n
  · rw [itoa_pos h0, parseInt64_digits (by omega), Int.toNat_of_nonneg h0]
  · obtain ⟨u, rfl⟩ : ∃ u : Nat, n = -(u : Int) := ⟨n.natAbs, by omega⟩
    have hu : 1 ≤ u := by omega
    obtain ⟨h1, h2, _⟩ := decDigits_val' u
    have hp := parseUintM_ok (Lib.decDigits u) 0 h1 (by rw [h2]; omega)
    rw [h2] at hp
    have hne := decDigits_pos u
    rw [Lib.itoa_neg u hu]
    unfold parseInt64
    have : Lib.parseIntB 64 (45 :: Lib.decDigits u) = .ok (-(u : Int)) := by
      unfold Lib.parseIntB
      have hd : ¬ (Lib.decDigits u = []) := by intro h; rw [h] at hne; simp at hne
      simp only [if_pos (show ((45 : UInt8).toNat = 43 ∨ (45 : UInt8).toNat = 45) by decide), Lib.parseUintB, if_neg hd, hp]
      rw [if_neg (by intro h; exact h.1 rfl), if_neg (by omega), if_pos (by decide)]
    rw [this]

/-! ### an entry's line, as the program reads it -/
def goodE (e : DEntry) : Prop := (e.1 = 2 → goodV e.2.1) ∧ (e.1 = 3 → (-32768 ≤ e.2.2.1.1 ∧ e.2.2.1.1 ≤ 32767) ∧ (-32768 ≤ e.2.2.1.2.1 ∧ e.2.2.1.2.1 ≤ 32767) ∧ (-32768 ≤ e.2.2.1.2.2.1 ∧ e.2.2.1.2.2.1 ≤ 32767)) ∧ (e.1 = 4 → goodN e.2.2.2.2.1)
def endedB (r : DRd) : Bool := !r.2.1 && r.1.isEmpty

theorem zeroC_eq {c : Vec 3 Int} (h : zeroC c = true) : c = (0, 0, 0, ()) := by
  obtain ⟨a, b, d, ⟨⟩⟩ := c
  have h' : (iEq a 0 && (iEq b 0 && iEq d 0)) = true := h
  simp only [Bool.and_eq_true, iEq_true] at h'
  obtain ⟨rfl, rfl, rfl⟩ := h'
  rfl
theorem sameV_eq {v : Vec 3 Nat} (h : sameV v (0, 0, 0, ()) = true) : v = (0, 0, 0, ()) := by
  obtain ⟨a, b, d, ⟨⟩⟩ := v
  have h' : (sameN a 0 && (sameN b 0 && sameN d 0)) = true := h
  simp only [Bool.and_eq_true] at h'
  rw [sameN_zero h'.1, sameN_zero h'.2.1, sameN_zero h'.2.2]
  rfl
theorem sEq_neL {a b : List UInt8} (h : a ≠ b) : sEq a b = false := by
  cases e : sEq a b with
  | false => rfl
  | true => exact absurd (by simpa [sEq] using e) h

/-- a valid entry by its kind -/
theorem entry_kind {n : Int} {e : DEntry} (h : entryB n e = true) : (e = (1, (0, 0, 0, ()), (0, 0, 0, ()), 0, 0, ())) ∨ (∃ v : Vec 3 Nat, e = (2, v, (0, 0, 0, ()), 0, 0, ()) ∧ finV v = true) ∨ (∃ c : Vec 3 Int, e = (3, (0, 0, 0, ()), c, 0, 0, ())) ∨
    (∃ (k : Int) (a : Nat), e = (4, (0, 0, 0, ()), (0, 0, 0, ()), k, a, ()) ∧ 0 ≤ k ∧ k ≤ iSub .i64 n 1 ∧ finB a = true) := by
  obtain ⟨q, v, c, k, a, ⟨⟩⟩ := e
  unfold entryB at h
  simp only at h
  by_cases h1 : q = 1
  · subst h1
    have e1 : iEq (1 : Int) 1 = true := by decide
    rw [e1] at h
    simp only [cond_true, Bool.and_eq_true, iEq_true] at h
    obtain ⟨ha, hb, hc, hd⟩ := h
    rw [sameV_eq ha, zeroC_eq hb, hc, sameN_zero hd]
    exact .inl rfl
  · rw [iEq_neg h1] at h
    by_cases h2 : q = 2
    · subst h2
      have e1 : iEq (2 : Int) 2 = true := by decide
      rw [e1] at h
      simp only [cond_true, cond_false, Bool.and_eq_true, iEq_true] at h
      obtain ⟨⟨hb, hc, hd⟩, ha⟩ := h
      rw [zeroC_eq hb, hc, sameN_zero hd]
      exact .inr (.inl ⟨v, rfl, ha⟩)
    · rw [iEq_neg h2] at h
      by_cases h3 : q = 3
      · subst h3
        have e1 : iEq (3 : Int) 3 = true := by decide
        rw [e1] at h
        simp only [cond_true, cond_false, Bool.and_eq_true, iEq_true] at h
        obtain ⟨ha, hc, hd⟩ := h
        rw [sameV_eq ha, hc, sameN_zero hd]
        exact .inr (.inr (.inl ⟨c, rfl⟩))
      · rw [iEq_neg h3] at h
        by_cases h4 : q = 4
        · subst h4
          have e1 : iEq (4 : Int) 4 = true := by decide
          rw [e1] at h
          simp only [cond_true, cond_false, Bool.and_eq_true, iLe_true] at h
          obtain ⟨⟨h0, h1⟩, ha, hb, hd⟩ := h
          rw [sameV_eq ha, zeroC_eq hb]
          exact .inr (.inr (.inr ⟨k, a, rfl, h0, h1, hd⟩))
        · rw [iEq_neg h4] at h
          cases h

theorem wrap16i {x : Int} (h : -32768 ≤ x) (h1 : x ≤ 32767) : iWrap .i16 x = x := by simp [iWrap, IntKind.wrap, IntKind.signed, IntKind.bits]; omega

theorem drop1_nil {ws : List (List UInt8)} {a : List UInt8} {r : List (List UInt8)} (h : ws = a :: r) (h' : (ws.drop 1).isEmpty = true) : r = [] := by
  rw [h] at h'
  simpa using h'

/-! ### the program's reading of a log -/
def goodL (l : DLog) : Prop := goodV l.2.1 ∧ (∀ v ∈ l.2.2.1, goodV v) ∧ ∀ e ∈ l.2.2.2.1, goodE e
abbrev DRL := (DLog × Int × Unit) × Unit
def badL : DRL := (((0, (0, 0, 0, ()), [], [], ()), 5, ()), ())

theorem splitC_memL {c : UInt8} {s f : List UInt8} (h : f ∈ splitC c s) : f.length ≤ s.length := by
  have h1 := (List.sublist_flatten_of_mem h).length_le
  rw [splitC_flatten] at h1
  exact Nat.le_trans h1 (List.length_filter_le _ _)

theorem okG_lines {s : List UInt8} (h : okG s = true) : ∃ x Ls, splitC 10 s = (x :: Ls) ++ [[]] ∧ (splitC 10 s).take (s.count 10) = x :: Ls := by
  unfold okG at h
  simp only [Bool.and_eq_true, iLt_true] at h
  have hl := splitC_length 10 s
  generalize s.count 10 = n at h hl ⊢
  have hlast : (splitC 10 s).getD n [] = [] := by simpa [sEq] using h.2
  rw [getD_of (by omega)] at hlast
  have e : splitC 10 s = (splitC 10 s).take n ++ [[]] := by
    conv => lhs; rw [← List.take_append_drop n (splitC 10 s)]
    congr 1
    rw [← List.getElem_cons_drop (h := by omega), hlast, List.drop_eq_nil_of_le (by omega)]
  cases ht : (splitC 10 s).take n with
  | nil =>
    have := congrArg List.length ht
    rw [List.length_take, List.length_nil] at this
    omega
  | cons x Ls => exact ⟨x, Ls, by rw [e, ht], rfl⟩

theorem entry_zero {n : Int} {e : DEntry} (h : entryB n e = true) : e.1 ≠ 0 := by
  rcases entry_kind h with rfl | ⟨v, rfl, -⟩ | ⟨c, rfl⟩ | ⟨k, a, rfl, -⟩
  · show (1 : Int) ≠ 0; decide
  · show (2 : Int) ≠ 0; decide
  · show (3 : Int) ≠ 0; decide
  · show (4 : Int) ≠ 0; decide

theorem sized_log {a : Int} {v : Vec 3 Nat} {B : List (Vec 3 Nat)} {E : List DEntry} (hB : B.length ≤ 1048577) (hE : E.length ≤ 1048577) : Sized TyLog ((a, v, B, E, ()) : DLog) := by
  obtain ⟨v0, v1, v2, ⟨⟩⟩ := v
  refine ⟨trivial, ⟨trivial, trivial, trivial, trivial⟩, ⟨?_, fun _ _ => ⟨trivial, trivial, trivial, trivial⟩⟩, ⟨?_, fun _ _ => ⟨trivial, ⟨trivial, trivial, trivial, trivial⟩, ⟨trivial, trivial, trivial, trivial⟩, trivial, trivial, trivial⟩⟩, trivial⟩
  · show B.length ≤ _; omega
  · show E.length ≤ _; omega

theorem take_succ_getElem {α : Type} {l : List α} {i : Nat} (h : i < l.length) : l.take (i + 1) = l.take i ++ [l[i]] := by
  rw [List.take_add_one]
  simp [h]

theorem linesT_mem {Ls : List (List UInt8)} {f : List UInt8} (h : f ∈ Ls) : f.length ≤ (linesT Ls).length := by
  unfold linesT
  have h1 : (f ++ [10]).Sublist (Ls.flatMap fun x => x ++ [10]) := by
    rw [List.flatMap_def]
    exact List.sublist_flatten_of_mem (List.mem_map.2 ⟨f, h, rfl⟩)
  have := h1.length_le
  rw [List.length_append] at this
  exact Nat.le_trans (Nat.le_add_right _ _) this
end Go.Proofs.YtildomllnnnofaaDoor
