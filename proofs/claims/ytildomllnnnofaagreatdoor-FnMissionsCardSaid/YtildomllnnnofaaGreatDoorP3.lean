/- Functions of the program and of the reference in plain terms. -/
import Derived.Test.YtildomllnnnofaaGreatDoorP2
namespace Go.Proofs.YtildomllnnnofaaGreatDoor
open Go Go.Tm
set_option linter.unusedVariables false
set_option linter.unusedSimpArgs false
set_option linter.unusedSectionVars false
/-! ### numerals -/
def digB (b : UInt8) : Bool := decide (48 ≤ b.toNat) && decide (b.toNat ≤ 57)
def valD (acc : Nat) (l : List UInt8) : Nat := l.foldl (fun a b => a * 10 + (b.toNat - 48)) acc

theorem valD_snoc (acc : Nat) (l : List UInt8) (b : UInt8) : valD acc (l ++ [b]) = valD acc l * 10 + (b.toNat - 48) := by
  unfold valD
  rw [List.foldl_append]
  rfl

theorem valD_ge : ∀ (l : List UInt8) (acc : Nat), acc ≤ valD acc l
  | [], _ => Nat.le_refl _
  | b :: l, acc => by
    have := valD_ge l (acc * 10 + (b.toNat - 48))
    show acc ≤ valD (acc * 10 + (b.toNat - 48)) l
    omega

theorem digit_byte {d : Nat} (h : d < 10) : (UInt8.ofNat (48 + d)).toNat = 48 + d := by
  rw [UInt8.toNat_ofNat']
  omega

/-- the digits of a number: all digits, their value, no 0 ahead -/
theorem decDigits_val : ∀ (k u : Nat), u < 10 ^ (k + 1) → (Lib.decDigits u).all digB = true ∧ valD 0 (Lib.decDigits u) = u ∧ (Lib.decDigits u).length ≤ k + 1 ∧ (1 ≤ u → ∃ c r, Lib.decDigits u = c :: r ∧ c.toNat ≠ 48)
  | 0, u, h => by
    have h : u < 10 := by simpa using h
    have e : Lib.decDigits u = [UInt8.ofNat (48 + u)] := by rw [Lib.decDigits, dif_pos h]
    have hb := digit_byte h
    rw [e]
    refine ⟨?_, ?_, by simp, fun h1 => ⟨_, _, rfl, by omega⟩⟩
    · simp [digB, hb]; omega
    · show 0 * 10 + ((UInt8.ofNat (48 + u)).toNat - 48) = u
      omega
  | k + 1, u, h => by
    by_cases hu : u < 10
    · obtain ⟨h1, h2, h3, h4⟩ := decDigits_val 0 u (by simpa using hu)
      exact ⟨h1, h2, by omega, h4⟩
    · have e : Lib.decDigits u = Lib.decDigits (u / 10) ++ [UInt8.ofNat (48 + u % 10)] := by rw [Lib.decDigits, dif_neg hu]
      obtain ⟨h1, h2, h3, h4⟩ := decDigits_val k (u / 10) (by rw [Nat.pow_succ] at h; omega)
      have hb := digit_byte (d := u % 10) (by omega)
      obtain ⟨c, r, e2, hc⟩ := h4 (by omega)
      rw [e]
      refine ⟨?_, ?_, by simp; omega, fun _ => ⟨c, r ++ [UInt8.ofNat (48 + u % 10)], by rw [e2]; rfl, hc⟩⟩
      · rw [List.all_append, h1]; simp [digB, hb]; omega
      · rw [valD_snoc, h2, hb]; omega

theorem decDigits_val' (u : Nat) : (Lib.decDigits u).all digB = true ∧ valD 0 (Lib.decDigits u) = u ∧ (1 ≤ u → ∃ c r, Lib.decDigits u = c :: r ∧ c.toNat ≠ 48) := by
  obtain ⟨h1, h2, _, h4⟩ := decDigits_val u u (Nat.lt_of_lt_of_le (Nat.lt_pow_self (by decide : 1 < 10)) (Nat.pow_le_pow_right (by decide) (Nat.le_succ u)))
  exact ⟨h1, h2, h4⟩

/-- a numeral is the digits of its value -/
theorem digits_of : ∀ (n : Nat) (s : List UInt8), s.length = n + 1 → s.all digB = true → (n = 0 ∨ ∃ c r, s = c :: r ∧ c.toNat ≠ 48) → Lib.decDigits (valD 0 s) = s
  | 0, s, hl, hd, _ => by
    obtain ⟨b, rfl⟩ : ∃ b, s = [b] := by
      match s, hl with
      | [b], _ => exact ⟨b, rfl⟩
    have hb : 48 ≤ b.toNat ∧ b.toNat ≤ 57 := by simpa [digB] using hd
    have : valD 0 [b] = b.toNat - 48 := by show 0 * 10 + (b.toNat - 48) = _; omega
    rw [this, Lib.decDigits, dif_pos (by omega)]
    congr 1
    refine UInt8.toNat_inj.1 ?_
    rw [digit_byte (by omega)]
    omega
  | n + 1, s, hl, hd, h0 => by
    obtain ⟨c, r, e, hc⟩ : ∃ c r, s = c :: r ∧ c.toNat ≠ 48 := by
      rcases h0 with h0 | h0
      · omega
      · exact h0
    obtain ⟨t, b, rfl⟩ : ∃ t b, s = t ++ [b] := by
      exact ⟨s.dropLast, s.getLast (by rw [e]; simp), (List.dropLast_concat_getLast (by rw [e]; simp)).symm⟩
    rw [List.all_append, Bool.and_eq_true] at hd
    have hb : 48 ≤ b.toNat ∧ b.toNat ≤ 57 := by simpa [digB] using hd.2
    have ht : t.length = n + 1 := by simpa using hl
    obtain ⟨d, q, rfl⟩ : ∃ d q, t = d :: q := by
      cases t with
      | nil => simp at ht
      | cons d q => exact ⟨d, q, rfl⟩
    have hdc : d = c := by
      have : d :: (q ++ [b]) = c :: r := e
      exact (List.cons.inj this).1
    have ih := digits_of n (d :: q) ht hd.1 (.inr ⟨d, q, rfl, by rw [hdc]; exact hc⟩)
    have hv : 1 ≤ valD 0 (d :: q) := by
      rcases Nat.eq_zero_or_pos (valD 0 (d :: q)) with h | h
      · rw [h] at ih
        have h0 : Lib.decDigits 0 = [48] := by rw [Lib.decDigits, dif_pos (by decide)]; rfl
        rw [h0] at ih
        have : d = 48 := (List.cons.inj ih).1.symm
        rw [← hdc, this] at hc
        exact absurd rfl hc
      · exact h
    rw [valD_snoc, Lib.decDigits, dif_neg (by omega)]
    have e1 : (valD 0 (d :: q) * 10 + (b.toNat - 48)) / 10 = valD 0 (d :: q) := by omega
    have e2 : (valD 0 (d :: q) * 10 + (b.toNat - 48)) % 10 = b.toNat - 48 := by omega
    rw [e1, e2, ih]
    congr 2
    refine UInt8.toNat_inj.1 ?_
    rw [digit_byte (by omega)]
    omega

/-- is the text the numeral of a number of at most m -/
def numOK (m : Nat) (s : List UInt8) : Bool := decide (s = Lib.decDigits (valD 0 s)) && decide (valD 0 s ≤ m)

theorem numOK_iff {m : Nat} {s : List UInt8} : numOK m s = true ↔ ∃ k, k ≤ m ∧ s = Lib.decDigits k := by
  unfold numOK
  rw [Bool.and_eq_true, decide_eq_true_eq, decide_eq_true_eq]
  constructor
  · exact fun ⟨h1, h2⟩ => ⟨_, h2, h1⟩
  · rintro ⟨k, hk, rfl⟩
    have := (decDigits_val' k).2.1
    rw [this]
    exact ⟨rfl, hk⟩

theorem parseUintM_ok : ∀ (l : List UInt8) (acc : Nat), l.all digB = true → valD acc l ≤ 999999999999999999 → Lib.parseUintM (2 ^ 64 - 1) acc l = .ok (valD acc l)
  | [], _, _, _ => rfl
  | c :: r, acc, hd, hv => by
    rw [List.all_cons, Bool.and_eq_true] at hd
    have hc : 48 ≤ c.toNat ∧ c.toNat ≤ 57 := by simpa [digB] using hd.1
    have hv' : valD (acc * 10 + (c.toNat - 48)) r ≤ 999999999999999999 := hv
    have hge := valD_ge r (acc * 10 + (c.toNat - 48))
    unfold Lib.parseUintM
    rw [if_pos hc, if_neg (by omega), if_neg (by omega), parseUintM_ok r _ hd.2 hv']
    rfl

theorem parseInt64_digits {k : Nat} (hk : k ≤ 999999999999999999) : parseInt64 (Lib.decDigits k) = ((k : Int), true) := by
  obtain ⟨h1, h2, _⟩ := decDigits_val' k
  have hp := parseUintM_ok (Lib.decDigits k) 0 h1 (by rw [h2]; exact hk)
  rw [h2] at hp
  have hne := decDigits_pos k
  unfold parseInt64
  have : Lib.parseIntB 64 (Lib.decDigits k) = .ok (k : Int) := by
    cases hd : Lib.decDigits k with
    | nil => rw [hd] at hne; simp at hne
    | cons c r =>
      rw [hd, List.all_cons, Bool.and_eq_true] at h1
      have hc : 48 ≤ c.toNat ∧ c.toNat ≤ 57 := by simpa [digB] using h1.1
      rw [hd] at hp
      unfold Lib.parseIntB
      simp only [if_neg (show ¬ (c.toNat = 43 ∨ c.toNat = 45) by omega), Lib.parseUintB, if_neg (show ¬ (c :: r = []) by simp), hp]
      rw [if_neg (by omega), if_neg (by omega), if_neg (by omega)]
  rw [this]

theorem parseInt64_bounds (s : List UInt8) : -9223372036854775808 ≤ (parseInt64 s).1 ∧ (parseInt64 s).1 ≤ 9223372036854775807 := by
  unfold parseInt64
  cases h : Lib.parseIntB 64 s with
  | ok v =>
    have := Lib.parseIntB_bounds (B := 64) h
    simp at this ⊢
    omega
  | range =>
    show -9223372036854775808 ≤ Lib.intSat 64 s ∧ Lib.intSat 64 s ≤ 9223372036854775807
    unfold Lib.intSat
    split <;> decide
  | _ => exact ⟨by show (-9223372036854775808 : Int) ≤ 0; decide, by show (0 : Int) ≤ 9223372036854775807; decide⟩

theorem strconv_ParseInt_ok {s : List UInt8} (h : s.length ≤ 1048576) : strconv_ParseInt s 10 64 = some (((parseInt64 s).1, (parseInt64 s).2, ()), ()) := by
  unfold strconv_ParseInt
  rw [iEq_self, iEq_self, Nat.ble_eq_true_of_le (by omega)]
  rfl

theorem itoa_pos {n : Int} (h : 0 ≤ n) : Lib.itoa n = Lib.decDigits n.toNat := by
  unfold Lib.itoa
  rw [if_neg (by omega)]

theorem numOK_parse {m : Nat} {s : List UInt8} (hm : m ≤ 999999999999999999) (h : numOK m s = true) : (parseInt64 s) = ((valD 0 s : Int), true) ∧ Lib.itoa (valD 0 s : Int) = s ∧ valD 0 s ≤ m := by
  obtain ⟨k, hk, e⟩ := numOK_iff.1 h
  have hv : valD 0 s = k := by rw [e]; exact (decDigits_val' k).2.1
  rw [hv]
  refine ⟨by rw [e]; exact parseInt64_digits (by omega), ?_, hk⟩
  rw [itoa_nat, e]

theorem numOK_false {m : Nat} {s : List UInt8} (h : numOK m s = false) {n : Int} (h0 : 0 ≤ n) (h1 : n ≤ m) : Lib.itoa n ≠ s := by
  intro e
  have : numOK m s = true := numOK_iff.2 ⟨n.toNat, by omega, by rw [← e, itoa_pos h0]⟩
  rw [this] at h
  cases h

theorem valD_lt : ∀ (l : List UInt8) (acc n : Nat), l.all digB = true → acc < 10 ^ n → valD acc l < 10 ^ (n + l.length)
  | [], _, _, _, h => h
  | b :: l, acc, n, hd, h => by
    rw [List.all_cons, Bool.and_eq_true] at hd
    have hb : 48 ≤ b.toNat ∧ b.toNat ≤ 57 := by simpa [digB] using hd.1
    have := valD_lt l (acc * 10 + (b.toNat - 48)) (n + 1) hd.2 (by rw [Nat.pow_succ]; omega)
    rw [List.length_cons, show n + (l.length + 1) = n + 1 + l.length by omega]
    exact this
end Go.Proofs.YtildomllnnnofaaGreatDoor
