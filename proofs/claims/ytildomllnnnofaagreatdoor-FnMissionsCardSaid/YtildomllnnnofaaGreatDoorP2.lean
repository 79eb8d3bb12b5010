/- Functions of the program and of the reference in plain terms. -/
import Derived.Test.YtildomllnnnofaaGreatDoorP1
namespace Go.Proofs.YtildomllnnnofaaGreatDoor
open Go Go.Tm
set_option linter.unusedVariables false
set_option linter.unusedSimpArgs false
set_option linter.unusedSectionVars false
/-! ### texts: cut at a byte -/
/-- a text cut at a byte -/
def splitC (c : UInt8) : List UInt8 → List (List UInt8)
  | [] => [[]]
  | b :: r => if b = c then [] :: splitC c r else
      match splitC c r with
      | [] => [[b]]
      | l :: ls => (b :: l) :: ls

theorem splitC_ne (c : UInt8) : ∀ s, splitC c s ≠ []
  | [] => by simp [splitC]
  | b :: r => by
    unfold splitC
    split
    · simp
    · split <;> simp

theorem splitC_free {c : UInt8} : ∀ {p : List UInt8}, c ∉ p → splitC c p = [p]
  | [], _ => rfl
  | b :: p, h => by
    rw [List.mem_cons, not_or] at h
    unfold splitC
    rw [if_neg (fun e => h.1 e.symm), splitC_free h.2]

theorem splitC_cut {c : UInt8} (r : List UInt8) : ∀ {p : List UInt8}, c ∉ p → splitC c (p ++ c :: r) = p :: splitC c r
  | [], _ => by simp [splitC]
  | b :: p, h => by
    rw [List.mem_cons, not_or] at h
    show splitC c (b :: (p ++ c :: r)) = _
    rw [splitC, if_neg (fun e => h.1 e.symm), splitC_cut r h.2]

theorem cut_first (c : UInt8) : ∀ s : List UInt8, c ∉ s ∨ ∃ p r, s = p ++ c :: r ∧ c ∉ p
  | [] => .inl (by simp)
  | b :: s => by
    by_cases h : b = c
    · exact .inr ⟨[], s, by rw [h]; rfl, by simp⟩
    · rcases cut_first c s with h1 | ⟨p, r, e, h1⟩
      · exact .inl (by rw [List.mem_cons, not_or]; exact ⟨fun e => h e.symm, h1⟩)
      · exact .inr ⟨b :: p, r, by rw [e]; rfl, by rw [List.mem_cons, not_or]; exact ⟨fun e => h e.symm, h1⟩⟩

theorem index_free {c : UInt8} : ∀ {s : List UInt8}, c ∉ s → Lib.index s [c] = -1
  | [], _ => rfl
  | b :: s, h => by
    rw [List.mem_cons, not_or] at h
    have hb : (c == b) = false := by simpa using h.1
    simp [Lib.index, List.isPrefixOf, hb, index_free h.2]

theorem index_cut {c : UInt8} (r : List UInt8) : ∀ {p : List UInt8}, c ∉ p → Lib.index (p ++ c :: r) [c] = (p.length : Int)
  | [], _ => by simp [Lib.index, List.isPrefixOf]
  | b :: p, h => by
    rw [List.mem_cons, not_or] at h
    have hb : (c == b) = false := by simpa using h.1
    show Lib.index (b :: (p ++ c :: r)) [c] = _
    have hi := index_cut r h.2
    have hne : ((p.length : Int) == -1) = false := by
      rw [beq_eq_false_iff_ne]; omega
    simp [Lib.index, List.isPrefixOf, hb, hi, hne]

theorem countFrom_le (c : UInt8) : ∀ (fuel : Nat) (s : List UInt8), s.length < fuel → s.count c ≤ Lib.countFrom [c] fuel s
  | 0, s, h => by omega
  | fuel + 1, s, h => by
    rcases cut_first c s with h1 | ⟨p, r, e, h1⟩
    · rw [List.count_eq_zero.2 h1]; exact Nat.zero_le _
    · subst e
      have hne : ((p.length : Int) == -1) = false := by
        rw [beq_eq_false_iff_ne]; omega
      have hd : (p ++ c :: r).drop ((p.length : Int).toNat + [c].length) = r := by
        rw [Int.toNat_natCast, List.length_singleton]
        rw [show p ++ c :: r = (p ++ [c]) ++ r by simp, show p.length + 1 = (p ++ [c]).length by simp, List.drop_left]
      have ih := countFrom_le c fuel r (by simp at h; omega)
      unfold Lib.countFrom
      rw [index_cut r h1, hne, hd]
      rw [List.count_append, List.count_eq_zero.2 h1, List.count_cons_self]
      simp only [Bool.false_eq_true, if_false]
      omega

theorem splitK_eq (c : UInt8) : ∀ (k : Nat) (s : List UInt8), s.count c ≤ k → Lib.splitK [c] 0 k s = splitC c s
  | 0, s, h => by
    have : c ∉ s := List.count_eq_zero.1 (Nat.le_zero.1 h)
    rw [splitC_free this]; rfl
  | k + 1, s, h => by
    rcases cut_first c s with h1 | ⟨p, r, e, h1⟩
    · unfold Lib.splitK
      rw [index_free h1, splitC_free h1]
      rfl
    · subst e
      have hne : ((p.length : Int) == -1) = false := by
        rw [beq_eq_false_iff_ne]; omega
      have hd : (p ++ c :: r).drop ((p.length : Int).toNat + [c].length) = r := by
        rw [Int.toNat_natCast, List.length_singleton]
        rw [show p ++ c :: r = (p ++ [c]) ++ r by simp, show p.length + 1 = (p ++ [c]).length by simp, List.drop_left]
      have ht : (p ++ c :: r).take ((p.length : Int).toNat + 0) = p := by simp
      unfold Lib.splitK
      rw [index_cut r h1, hne, hd, ht, splitC_cut r h1, splitK_eq c k r]
      · rfl
      · rw [List.count_append, List.count_eq_zero.2 h1, List.count_cons_self] at h; omega

theorem split_eq (c : UInt8) (s : List UInt8) : Lib.split s [c] = splitC c s := splitK_eq c _ s (countFrom_le c _ s (Nat.lt_succ_self _))

theorem strings_Split_ok (c : UInt8) {s : List UInt8} (h : s.length ≤ 4294967280) : strings_Split s [c] = some ((splitC c s, ()), ()) := by
  unfold strings_Split
  rw [show Nat.ble 1 [c].length = true from rfl, Nat.ble_eq_true_of_le h, split_eq]
  rfl

theorem splitC_length (c : UInt8) : ∀ s : List UInt8, (splitC c s).length = s.count c + 1
  | [] => rfl
  | b :: s => by
    have ih := splitC_length c s
    unfold splitC
    by_cases h : b = c
    · rw [if_pos h, h, List.count_cons_self, List.length_cons, ih]
    · rw [if_neg h, List.count_cons_of_ne h]
      cases hs : splitC c s with
      | nil => exact absurd hs (splitC_ne c s)
      | cons l ls => rw [hs] at ih; simpa using ih

theorem strAt_nat (s : List UInt8) (i : Nat) : strAt s (i : Int) = byteI (s.getD i 0) := by
  unfold strAt
  rw [Int.toNat_natCast]

theorem byteI_eq (a b : UInt8) : iEq (byteI a) (byteI b) = decide (a = b) := by
  unfold iEq byteI
  by_cases h : a = b
  · simp [h]
  · have : a.toNat ≠ b.toNat := fun e => h (UInt8.toNat_inj.1 e)
    have : (a.toNat : Int) ≠ (b.toNat : Int) := fun e => this (Int.ofNat.inj e)
    simp [h, this]

theorem subL_eq {q p r : List UInt8} : subL (q ++ p ++ r) (q.length : Int) ((q ++ p).length : Int) = p := by
  unfold subL
  rw [Int.toNat_natCast, Int.toNat_natCast, List.append_assoc, List.drop_left]
  rw [show (q ++ p).length - q.length = p.length by simp]
  simp

/-! ### decimals -/
theorem decDigits_pos (u : Nat) : 1 ≤ (Lib.decDigits u).length := by
  rw [Lib.decDigits]
  split <;> simp

theorem decimal_n : ∀ (k n : Nat), n < 10 ^ (k + 1) → k ≤ 100 → n ≤ 9223372036854775807 → spec_Decimal_n (k + 1) (n : Int) = some ((Lib.decDigits n, ()), ()) ∧ (Lib.decDigits n).length ≤ k + 1 := by
  intro k
  induction k with
  | zero =>
    intro n h hk _
    have h : n < 10 := by simpa using h
    have e1 : iLe 10 (n : Int) = false := iLe_neg (by omega)
    have e2 : iAdd .i64 48 (n : Int) = ((48 + n : Nat) : Int) := (iAdd_eq (by omega) (by omega)).trans (by omega)
    have e3 : iWrap .u8 ((48 + n : Nat) : Int) = ((48 + n : Nat) : Int) := by simp [iWrap, IntKind.wrap, IntKind.signed, IntKind.bits]; omega
    have e4 : Lib.decDigits n = [UInt8.ofNat (48 + n)] := by rw [Lib.decDigits, dif_pos h]
    refine ⟨?_, by rw [e4]; simp⟩
    show spec_Decimal_r (spec_Decimal_n 0) (n : Int) = _
    simp only [spec_Decimal_r, e1, e2, e3, e4, cond_false]
    rfl
  | succ k ih =>
    intro n h hk hm
    by_cases hn : n < 10
    · have e1 : iLe 10 (n : Int) = false := iLe_neg (by omega)
      have e2 : iAdd .i64 48 (n : Int) = ((48 + n : Nat) : Int) := (iAdd_eq (by omega) (by omega)).trans (by omega)
      have e3 : iWrap .u8 ((48 + n : Nat) : Int) = ((48 + n : Nat) : Int) := by simp [iWrap, IntKind.wrap, IntKind.signed, IntKind.bits]; omega
      have e4 : Lib.decDigits n = [UInt8.ofNat (48 + n)] := by rw [Lib.decDigits, dif_pos hn]
      refine ⟨?_, by rw [e4]; simp⟩
      show spec_Decimal_r (spec_Decimal_n (k + 1)) (n : Int) = _
      simp only [spec_Decimal_r, e1, e2, e3, e4, cond_false]
      rfl
    · have e1 : iLe 10 (n : Int) = true := iLe_pos (by omega)
      have e2 : iQuo .i64 (n : Int) 10 = ((n / 10 : Nat) : Int) := wrap64_id (a := ((n / 10 : Nat) : Int)) (by omega) (by omega)
      have e3 : iRem .i64 (n : Int) 10 = ((n % 10 : Nat) : Int) := rfl
      obtain ⟨ih1, ih2⟩ := ih (n / 10) (by rw [Nat.pow_succ] at h; omega) (by omega) (by omega)
      have e4 : iAdd .i64 48 ((n % 10 : Nat) : Int) = ((48 + n % 10 : Nat) : Int) := (iAdd_eq (by omega) (by omega)).trans (by omega)
      have e5 : iWrap .u8 ((48 + n % 10 : Nat) : Int) = ((48 + n % 10 : Nat) : Int) := by simp [iWrap, IntKind.wrap, IntKind.signed, IntKind.bits]; omega
      have e6 : Lib.decDigits n = Lib.decDigits (n / 10) ++ [UInt8.ofNat (48 + n % 10)] := by rw [Lib.decDigits, dif_neg hn]
      have e7 : ofBytes [((48 + n % 10 : Nat) : Int)] = [UInt8.ofNat (48 + n % 10)] := rfl
      have e8 : strRoom (Lib.decDigits (n / 10)) [UInt8.ofNat (48 + n % 10)] = true := by
        unfold strRoom
        rw [decide_eq_true_eq, List.length_singleton]
        omega
      refine ⟨?_, by rw [e6, List.length_append, List.length_singleton]; omega⟩
      show spec_Decimal_r (spec_Decimal_n (k + 1)) (n : Int) = _
      simp only [spec_Decimal_r, e1, e2, ih1, e3, e4, e5, e7, e8, cond_true, Option.bind_some]
      rw [e6]
      rfl

theorem decimal_64 {n : Nat} (h : n ≤ 9223372036854775807) : spec_Decimal_n 64 (n : Int) = some ((Lib.decDigits n, ()), ()) :=
  (decimal_n 63 n (Nat.lt_of_le_of_lt h (by decide)) (by omega) h).1

theorem spec_Decimal_ok {n : Nat} (h : n ≤ 9223372036854775807) : spec_Decimal (n : Int) = some ((Lib.decDigits n, ()), ()) ∧ (Lib.decDigits n).length ≤ 19 := by
  exact ⟨decimal_64 h, (decimal_n 18 n (Nat.lt_of_le_of_lt h (by decide)) (by omega) h).2⟩

theorem itoa_nat (n : Nat) : Lib.itoa (n : Int) = Lib.decDigits n := by
  unfold Lib.itoa
  rw [if_neg (by omega), Int.toNat_natCast]

theorem impl_decimal_int64_ok {n : Int} (h : -9223372036854775808 ≤ n) (h1 : n ≤ 9223372036854775807) : impl_decimal_int64 n = some ((Lib.itoa n, ()), ()) := by
  have : strconv_FormatInt n 10 = some ((Lib.itoa n, ()), ()) := by
    unfold strconv_FormatInt
    rw [iEq_self, iLe_pos h, iLe_pos h1]
    rfl
  simp only [impl_decimal_int64, this, Option.bind_some]

/-! ### a deed's text -/
def deedWordsL : List (List UInt8) := [[], [115, 101, 101], [115, 101, 110, 100], [100, 101, 108, 105, 118, 101, 114], [99, 111, 112, 121], [100, 114, 111, 112], [115, 97, 118, 101], [99, 114, 97, 115, 104]]

abbrev DDeed := Int × (Int × (Int × Unit))
def deedB (d : DDeed) : Bool := (iLe 1 d.1 && iLe d.1 7) && ((iLe 0 d.2.1 && iLe d.2.1 999) && ((iLe 0 d.2.2.1 && iLe d.2.2.1 999) && (iEq d.1 2 || iEq d.2.2.1 0)))

/-- the text of a valid deed -/
def deedT (d : DDeed) : List UInt8 := (deedWordsL.getD d.1.toNat [] ++ [32]) ++ Lib.decDigits d.2.1.toNat ++ (bif iEq d.1 2 then [32] ++ Lib.decDigits d.2.2.1.toNat else [])

theorem strRoom_ok {a b : List UInt8} (h : a.length + b.length ≤ 4611686018427387904) : strRoom a b = true := by
  unfold strRoom; rw [decide_eq_true_eq]; exact h

theorem deed_cases {d : DDeed} (h : deedB d = true) : ∃ k a b : Nat, d = ((k : Int), (a : Int), (b : Int), ()) ∧ 1 ≤ k ∧ k ≤ 7 ∧ a ≤ 999 ∧ b ≤ 999 ∧ (k = 2 ∨ b = 0) := by
  obtain ⟨k, a, b, ⟨⟩⟩ := d
  simp only [deedB, Bool.and_eq_true, iLe_true, Bool.or_eq_true, iEq_true] at h
  obtain ⟨⟨h1, h2⟩, ⟨h3, h4⟩, ⟨h5, h6⟩, h7⟩ := h
  refine ⟨k.toNat, a.toNat, b.toNat, ?_, by omega, by omega, by omega, by omega, by omega⟩
  rw [Int.toNat_of_nonneg (by omega), Int.toNat_of_nonneg h3, Int.toNat_of_nonneg h5]

theorem deedWords_len (k : Nat) : (deedWordsL.getD k []).length ≤ 10 := by
  by_cases h : k < 8
  · rcases k with _ | _ | _ | _ | _ | _ | _ | _ | k <;> first | decide | omega
  · rw [List.getD_eq_getElem?_getD, List.getElem?_eq_none (by simpa [deedWordsL] using h)]; decide
end Go.Proofs.YtildomllnnnofaaGreatDoor
