import Derived.Test.YtildomllnnnofaaGreatP2
/- Functions of the program and of the reference in plain terms. -/
namespace Go.Proofs.YtildomllnnnofaaGreat
open Go Go.Tm
set_option linter.unusedVariables false
set_option linter.unusedSimpArgs false
set_option linter.unusedSectionVars false
def splitC (c : UInt8) : List UInt8 → List (List UInt8)
  | [] => [[]]
  | b :: r => if b = c then [] :: splitC c r else
      match splitC c r with
      | [] => [[b]]
      | l :: ls => (b :: l) :: ls
theorem qhn (c : UInt8) : ∀ s, splitC c s ≠ []
  | [] => by simp [splitC]
  | b :: r => by
    unfold splitC
    split
    · simp
    · split <;> simp
theorem qcg {c : UInt8} : ∀ {p : List UInt8}, c ∉ p → splitC c p = [p]
  | [], _ => rfl
  | b :: p, h => by
    rw [List.mem_cons, not_or] at h
    unfold splitC
    rw [if_neg (fun e => h.1 e.symm), qcg h.2]
theorem qce {c : UInt8} (r : List UInt8) : ∀ {p : List UInt8}, c ∉ p → splitC c (p ++ c :: r) = p :: splitC c r
  | [], _ => by simp [splitC]
  | b :: p, h => by
    rw [List.mem_cons, not_or] at h
    show splitC c (b :: (p ++ c :: r)) = _
    rw [splitC, if_neg (fun e => h.1 e.symm), qce r h.2]
theorem qcp (c : UInt8) : ∀ s : List UInt8, c ∉ s ∨ ∃ p r, s = p ++ c :: r ∧ c ∉ p
  | [] => .inl (by simp)
  | b :: s => by
    by_cases h : b = c
    · exact .inr ⟨[], s, by rw [h]; rfl, by simp⟩
    · rcases qcp c s with h1 | ⟨p, r, e, h1⟩
      · exact .inl (by rw [List.mem_cons, not_or]; exact ⟨fun e => h e.symm, h1⟩)
      · exact .inr ⟨b :: p, r, by rw [e]; rfl, by rw [List.mem_cons, not_or]; exact ⟨fun e => h e.symm, h1⟩⟩
theorem qjh {c : UInt8} : ∀ {s : List UInt8}, c ∉ s → Lib.index s [c] = -1
  | [], _ => rfl
  | b :: s, h => by
    rw [List.mem_cons, not_or] at h
    have hb : (c == b) = false := by simpa using h.1
    simp [Lib.index, List.isPrefixOf, hb, qjh h.2]
theorem qhw {c : UInt8} (r : List UInt8) : ∀ {p : List UInt8}, c ∉ p → Lib.index (p ++ c :: r) [c] = (p.length : Int)
  | [], _ => by simp [Lib.index, List.isPrefixOf]
  | b :: p, h => by
    rw [List.mem_cons, not_or] at h
    have hb : (c == b) = false := by simpa using h.1
    show Lib.index (b :: (p ++ c :: r)) [c] = _
    have hi := qhw r h.2
    have hne : ((p.length : Int) == -1) = false := by
      rw [beq_eq_false_iff_ne]; omega
    simp [Lib.index, List.isPrefixOf, hb, hi, hne]
theorem qlf (c : UInt8) : ∀ (fuel : Nat) (s : List UInt8), s.length < fuel → s.count c ≤ Lib.countFrom [c] fuel s
  | 0, s, h => by omega
  | fuel + 1, s, h => by
    rcases qcp c s with h1 | ⟨p, r, e, h1⟩
    · rw [List.count_eq_zero.2 h1]; exact Nat.zero_le _
    · subst e
      have hne : ((p.length : Int) == -1) = false := by
        rw [beq_eq_false_iff_ne]; omega
      have hd : (p ++ c :: r).drop ((p.length : Int).toNat + [c].length) = r := by
        rw [Int.toNat_natCast, List.length_singleton]
        rw [show p ++ c :: r = (p ++ [c]) ++ r by simp, show p.length + 1 = (p ++ [c]).length by simp, List.drop_left]
      have ih := qlf c fuel r (by simp at h; omega)
      unfold Lib.countFrom
      rw [qhw r h1, hne, hd]
      rw [List.count_append, List.count_eq_zero.2 h1, List.count_cons_self]
      simp only [Bool.false_eq_true, if_false]
      omega
theorem qqs (c : UInt8) : ∀ (k : Nat) (s : List UInt8), s.count c ≤ k → Lib.splitK [c] 0 k s = splitC c s
  | 0, s, h => by
    have : c ∉ s := List.count_eq_zero.1 (Nat.le_zero.1 h)
    rw [qcg this]; rfl
  | k + 1, s, h => by
    rcases qcp c s with h1 | ⟨p, r, e, h1⟩
    · unfold Lib.splitK
      rw [qjh h1, qcg h1]
      rfl
    · subst e
      have hne : ((p.length : Int) == -1) = false := by
        rw [beq_eq_false_iff_ne]; omega
      have hd : (p ++ c :: r).drop ((p.length : Int).toNat + [c].length) = r := by
        rw [Int.toNat_natCast, List.length_singleton]
        rw [show p ++ c :: r = (p ++ [c]) ++ r by simp, show p.length + 1 = (p ++ [c]).length by simp, List.drop_left]
      have ht : (p ++ c :: r).take ((p.length : Int).toNat + 0) = p := by simp
      unfold Lib.splitK
      rw [qhw r h1, hne, hd, ht, qce r h1, qqs c k r]
      · rfl
      · rw [List.count_append, List.count_eq_zero.2 h1, List.count_cons_self] at h; omega
theorem qxi (c : UInt8) (s : List UInt8) : Lib.split s [c] = splitC c s := qqs c _ s (qlf c _ s (Nat.lt_succ_self _))
theorem qg6 (c : UInt8) {s : List UInt8} (h : s.length ≤ 4294967280) : strings_Split s [c] = some ((splitC c s, ()), ()) := by
  unfold strings_Split
  rw [show Nat.ble 1 [c].length = true from rfl, Nat.ble_eq_true_of_le h, qxi]
  rfl
theorem qd2 (c : UInt8) : ∀ s : List UInt8, (splitC c s).length = s.count c + 1
  | [] => rfl
  | b :: s => by
    have ih := qd2 c s
    unfold splitC
    by_cases h : b = c
    · rw [if_pos h, h, List.count_cons_self, List.length_cons, ih]
    · rw [if_neg h, List.count_cons_of_ne h]
      cases hs : splitC c s with
      | nil => exact absurd hs (qhn c s)
      | cons l ls => rw [hs] at ih; simpa using ih
theorem qqo (s : List UInt8) (i : Nat) : strAt s (i : Int) = byteI (s.getD i 0) := by
  unfold strAt
  rw [Int.toNat_natCast]
theorem qmy (a b : UInt8) : iEq (byteI a) (byteI b) = decide (a = b) := by
  unfold iEq byteI
  by_cases h : a = b
  · simp [h]
  · have : a.toNat ≠ b.toNat := fun e => h (UInt8.toNat_inj.1 e)
    have : (a.toNat : Int) ≠ (b.toNat : Int) := fun e => this (Int.ofNat.inj e)
    simp [h, this]
theorem qzl {q p r : List UInt8} : subL (q ++ p ++ r) (q.length : Int) ((q ++ p).length : Int) = p := by
  unfold subL
  rw [Int.toNat_natCast, Int.toNat_natCast, List.append_assoc, List.drop_left]
  rw [show (q ++ p).length - q.length = p.length by simp]
  simp
theorem qsf (c : UInt8) {s : List UInt8} (hs : s.length ≤ 1048576) : ∀ (r p q : List UInt8) (out : List (List UInt8)), s = q ++ p ++ r → c ∉ p → out.length ≤ q.length →
    run (spec_l01Split_l4 s (byteI c)) (out, (q.length : Int), ((q ++ p).length : Int), ()) = some ((out ++ splitC c (p ++ r), ()), ()) := by
  intro r
  induction r with
  | nil =>
    intro p q out e hp ho
    refine qaj ?_
    have hl : s.length = (q ++ p).length := by rw [e]; simp
    have e1 : iLt ((q ++ p).length : Int) (lenI s) = false := qag (by rw [qaa, hl]; omega)
    have hq : q.length ≤ s.length := by rw [hl]; simp
    have e2 : inS (q.length : Int) (lenI s) s.length = true := by
      unfold inS; rw [qaa]; simp; omega
    have e3 : room (out.length + 1) 16 = true := qbk (by omega)
    have e4 : dropL s (q.length : Int) = p := by
      unfold dropL
      rw [Int.toNat_natCast, e, List.append_nil, List.drop_left]
    simp only [spec_l01Split_l4, e1, e2, e3, e4, cond_true, cond_false, List.append_nil, qcg hp]
    rfl
  | cons b r ih =>
    intro p q out e hp ho
    have hl : s.length = (q ++ p).length + (r.length + 1) := by rw [e]; simp; omega
    have hq : q.length ≤ (q ++ p).length := by simp
    have e1 : iLt ((q ++ p).length : Int) (lenI s) = true := qah (by rw [qaa, hl]; omega)
    have e2 : inB ((q ++ p).length : Int) s.length = true := qaf (by omega)
    have e3 : strAt s ((q ++ p).length : Int) = byteI b := by
      rw [qqo, e]
      simp [List.getD_eq_getElem?_getD]
    have e5 : iAdd .i64 ((q ++ p).length : Int) 1 = (((q ++ p).length + 1 : Nat) : Int) := qap (n := s.length) (by omega) (by omega)
    by_cases h : b = c
    · have e4 : iEq (byteI b) (byteI c) = true := by rw [qmy]; simpa using h
      have e6 : inS (q.length : Int) ((q ++ p).length : Int) s.length = true := by
        unfold inS; simp; simp at hl; omega
      have e7 : room (out.length + 1) 16 = true := qbk (by omega)
      have e8 : subL s (q.length : Int) ((q ++ p).length : Int) = p := by rw [e]; exact qzl
      have st : spec_l01Split_l4 s (byteI c) (out, (q.length : Int), ((q ++ p).length : Int), ()) = some (.inl (out ++ [p], (((q ++ p).length + 1 : Nat) : Int), (((q ++ p).length + 1 : Nat) : Int), ())) := by
        simp only [spec_l01Split_l4, e1, e2, e3, e4, e5, e6, e7, e8, cond_true]
      rw [qad st]
      have := ih [] (q ++ p ++ [c]) (out ++ [p]) (by rw [e, h]; simp) (by simp) (by simp; omega)
      rw [h, qce r hp]
      rw [show ((q ++ p ++ [c]).length : Int) = (((q ++ p).length + 1 : Nat) : Int) by simp; omega, show ((q ++ p ++ [c] ++ ([] : List UInt8)).length : Int) = (((q ++ p).length + 1 : Nat) : Int) by simp; omega] at this
      rw [this]
      simp
    · have e4 : iEq (byteI b) (byteI c) = false := by rw [qmy]; simpa using h
      have st : spec_l01Split_l4 s (byteI c) (out, (q.length : Int), ((q ++ p).length : Int), ()) = some (.inl (out, (q.length : Int), (((q ++ p).length + 1 : Nat) : Int), ())) := by
        simp only [spec_l01Split_l4, e1, e2, e3, e4, e5, cond_true, cond_false]
      rw [qad st]
      have := ih (p ++ [b]) q out (by rw [e]; simp) (by simp; exact ⟨hp, fun e => h e.symm⟩) ho
      rw [show ((q ++ (p ++ [b])).length : Int) = (((q ++ p).length + 1 : Nat) : Int) by simp; omega] at this
      rw [this]
      simp
theorem qcr (c : UInt8) {s : List UInt8} (hs : s.length ≤ 1048576) : spec_l01Split s (byteI c) = some ((splitC c s, ()), ()) := by
  have := qsf c hs s [] [] [] (by simp) (by simp) (by simp)
  simpa [spec_l01Split] using this
theorem qjs (u : Nat) : 1 ≤ (Lib.decDigits u).length := by
  rw [Lib.decDigits]
  split <;> simp
theorem qqk : ∀ (k n : Nat), n < 10 ^ (k + 1) → k ≤ 100 → n ≤ 9223372036854775807 → spec_Decimal_n (k + 1) (n : Int) = some ((Lib.decDigits n, ()), ()) ∧ (Lib.decDigits n).length ≤ k + 1 := by
  intro k
  induction k with
  | zero =>
    intro n h hk _
    have h : n < 10 := by simpa using h
    have e1 : iLe 10 (n : Int) = false := qc9 (by omega)
    have e2 : iAdd .i64 48 (n : Int) = ((48 + n : Nat) : Int) := (qa8 (by omega) (by omega)).trans (by omega)
    have e3 : iWrap .u8 ((48 + n : Nat) : Int) = ((48 + n : Nat) : Int) := by simp [iWrap, IntKind.wrap, IntKind.signed, IntKind.bits]; omega
    have e4 : Lib.decDigits n = [UInt8.ofNat (48 + n)] := by rw [Lib.decDigits, dif_pos h]
    refine ⟨?_, by rw [e4]; simp⟩
    show spec_Decimal_r (spec_Decimal_n 0) (n : Int) = _
    simp only [spec_Decimal_r, e1, e2, e3, e4, cond_false]
    rfl
  | succ k ih =>
    intro n h hk hm
    by_cases hn : n < 10
    · have e1 : iLe 10 (n : Int) = false := qc9 (by omega)
      have e2 : iAdd .i64 48 (n : Int) = ((48 + n : Nat) : Int) := (qa8 (by omega) (by omega)).trans (by omega)
      have e3 : iWrap .u8 ((48 + n : Nat) : Int) = ((48 + n : Nat) : Int) := by simp [iWrap, IntKind.wrap, IntKind.signed, IntKind.bits]; omega
      have e4 : Lib.decDigits n = [UInt8.ofNat (48 + n)] := by rw [Lib.decDigits, dif_pos hn]
      refine ⟨?_, by rw [e4]; simp⟩
      show spec_Decimal_r (spec_Decimal_n (k + 1)) (n : Int) = _
      simp only [spec_Decimal_r, e1, e2, e3, e4, cond_false]
      rfl
    · have e1 : iLe 10 (n : Int) = true := qaq (by omega)
      have e2 : iQuo .i64 (n : Int) 10 = ((n / 10 : Nat) : Int) := qf3 (a := ((n / 10 : Nat) : Int)) (by omega) (by omega)
      have e3 : iRem .i64 (n : Int) 10 = ((n % 10 : Nat) : Int) := rfl
      obtain ⟨ih1, ih2⟩ := ih (n / 10) (by rw [Nat.pow_succ] at h; omega) (by omega) (by omega)
      have e4 : iAdd .i64 48 ((n % 10 : Nat) : Int) = ((48 + n % 10 : Nat) : Int) := (qa8 (by omega) (by omega)).trans (by omega)
      have e5 : iWrap .u8 ((48 + n % 10 : Nat) : Int) = ((48 + n % 10 : Nat) : Int) := by simp [iWrap, IntKind.wrap, IntKind.signed, IntKind.bits]; omega
      have e6 : Lib.decDigits n = Lib.decDigits (n / 10) ++ [UInt8.ofNat (48 + n % 10)] := by rw [Lib.decDigits, dif_neg hn]
      have e7 : ofBytes [((48 + n % 10 : Nat) : Int)] = [UInt8.ofNat (48 + n % 10)] := rfl
      have e8 : strRoom (Lib.decDigits (n / 10)) [UInt8.ofNat (48 + n % 10)] = true := by
        unfold strRoom
        rw [decide_eq_true_eq, List.length_singleton]
        omega
      refine ⟨?_, by rw [e6, List.length_append, List.length_singleton]; omega⟩
      show spec_Decimal_r (spec_Decimal_n (k + 1)) (n : Int) = _
      simp only [spec_Decimal_r, e1, e2, ih1, e3, e4, e5, e7, e8, cond_true, Option.bind_some]
      rw [e6]
      rfl
theorem qug {n : Nat} (h : n ≤ 9223372036854775807) : spec_Decimal_n 64 (n : Int) = some ((Lib.decDigits n, ()), ()) :=
  (qqk 63 n (Nat.lt_of_le_of_lt h (by decide)) (by omega) h).1
theorem qov {n : Nat} (h : n ≤ 9223372036854775807) : spec_Decimal (n : Int) = some ((Lib.decDigits n, ()), ()) ∧ (Lib.decDigits n).length ≤ 19 := by
  exact ⟨qug h, (qqk 18 n (Nat.lt_of_le_of_lt h (by decide)) (by omega) h).2⟩
theorem qyj (n : Nat) : Lib.itoa (n : Int) = Lib.decDigits n := by
  unfold Lib.itoa
  rw [if_neg (by omega), Int.toNat_natCast]
theorem qiq {n : Int} (h : -9223372036854775808 ≤ n) (h1 : n ≤ 9223372036854775807) : impl_decimal_int64 n = some ((Lib.itoa n, ()), ()) := by
  have : strconv_FormatInt n 10 = some ((Lib.itoa n, ()), ()) := by
    unfold strconv_FormatInt
    rw [qck, qaq h, qaq h1]
    rfl
  simp only [impl_decimal_int64, this, Option.bind_some]
theorem qal {a b : List UInt8} (h : a.length + b.length ≤ 4611686018427387904) : strRoom a b = true := by
  unfold strRoom; rw [decide_eq_true_eq]; exact h
end Go.Proofs.YtildomllnnnofaaGreat
