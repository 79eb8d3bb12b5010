/- Functions of the program and of the reference in plain terms. -/
import Derived.Test.YtdmaamakckochaaGreatDoorP2
namespace Go.Proofs.YtdmaamakckochaaGreatDoor
open Go Go.Tm
set_option linter.unusedVariables false
set_option linter.unusedSimpArgs false
set_option linter.unusedSectionVars false
/-! ### numerals -/
def digB (b : UInt8) : Bool := decide (48 ≤ b.toNat) && decide (b.toNat ≤ 57)
def valD (acc : Nat) (l : List UInt8) : Nat := l.foldl (fun a b => a * 10 + (b.toNat - 48)) acc

theorem valD_snoc (acc : Nat) (l : List UInt8) (b : UInt8) : valD acc (l ++ [b]) = valD acc l * 10 + (b.toNat - 48) := by
  unfold valD
  rw [List.foldl_append]
  rfl

theorem valD_ge : ∀ (l : List UInt8) (acc : Nat), acc ≤ valD acc l
  | [], _ => Nat.le_refl _
  | b :: l, acc => by
    have := valD_ge l (acc * 10 + (b.toNat - 48))
    show acc ≤ valD (acc * 10 + (b.toNat - 48)) l
    omega

theorem digit_byte {d : Nat} (h : d < 10) : (UInt8.ofNat (48 + d)).toNat = 48 + d := by
  rw [UInt8.toNat_ofNat']
  omega

/-- the digits of a number: all digits, their value, no 0 ahead -/
theorem decDigits_val : ∀ (k u : Nat), u < 10 ^ (k + 1) → (Lib.decDigits u).all digB = true ∧ valD 0 (Lib.decDigits u) = u ∧ (Lib.decDigits u).length ≤ k + 1 ∧ (1 ≤ u → ∃ c r, Lib.decDigits u = c :: r ∧ c.toNat ≠ 48)
  | 0, u, h => by
    have h : u < 10 := by simpa using h
    have e : Lib.decDigits u = [UInt8.ofNat (48 + u)] := by rw [Lib.decDigits, dif_pos h]
    have hb := digit_byte h
    rw [e]
    refine ⟨?_, ?_, by simp, fun h1 => ⟨_, _, rfl, by omega⟩⟩
    · simp [digB, hb]; omega
    · show 0 * 10 + ((UInt8.ofNat (48 + u)).toNat - 48) = u
      omega
  | k + 1, u, h => by
    by_cases hu : u < 10
    · obtain ⟨h1, h2, h3, h4⟩ := decDigits_val 0 u (by simpa using hu)
      exact ⟨h1, h2, by omega, h4⟩
    · have e : Lib.decDigits u = Lib.decDigits (u / 10) ++ [UInt8.ofNat (48 + u % 10)] := by rw [Lib.decDigits, dif_neg hu]
      obtain ⟨h1, h2, h3, h4⟩ := decDigits_val k (u / 10) (by rw [Nat.pow_succ] at h; omega)
      have hb := digit_byte (d := u % 10) (by omega)
      obtain ⟨c, r, e2, hc⟩ := h4 (by omega)
      rw [e]
      refine ⟨?_, ?_, by simp; omega, fun _ => ⟨c, r ++ [UInt8.ofNat (48 + u % 10)], by rw [e2]; rfl, hc⟩⟩
      · rw [List.all_append, h1]; simp [digB, hb]; omega
      · rw [valD_snoc, h2, hb]; omega

theorem decDigits_val' (u : Nat) : (Lib.decDigits u).all digB = true ∧ valD 0 (Lib.decDigits u) = u ∧ (1 ≤ u → ∃ c r, Lib.decDigits u = c :: r ∧ c.toNat ≠ 48) := by
  obtain ⟨h1, h2, _, h4⟩ := decDigits_val u u (Nat.lt_of_lt_of_le (Nat.lt_pow_self (by decide : 1 < 10)) (Nat.pow_le_pow_right (by decide) (Nat.le_succ u)))
  exact ⟨h1, h2, h4⟩

/-- a numeral is the digits of its value -/
theorem digits_of : ∀ (n : Nat) (s : List UInt8), s.length = n + 1 → s.all digB = true → (n = 0 ∨ ∃ c r, s = c :: r ∧ c.toNat ≠ 48) → Lib.decDigits (valD 0 s) = s
  | 0, s, hl, hd, _ => by
    obtain ⟨b, rfl⟩ : ∃ b, s = [b] := by
      match s, hl with
      | [b], _ => exact ⟨b, rfl⟩
    have hb : 48 ≤ b.toNat ∧ b.toNat ≤ 57 := by simpa [digB] using hd
    have : valD 0 [b] = b.toNat - 48 := by show 0 * 10 + (b.toNat - 48) = _; omega
    rw [this, Lib.decDigits, dif_pos (by omega)]
    congr 1
    refine UInt8.toNat_inj.1 ?_
    rw [digit_byte (by omega)]
    omega
  | n + 1, s, hl, hd, h0 => by
    obtain ⟨c, r, e, hc⟩ : ∃ c r, s = c :: r ∧ c.toNat ≠ 48 := by
      rcases h0 with h0 | h0
      · omega
      · exact h0
    obtain ⟨t, b, rfl⟩ : ∃ t b, s = t ++ [b] := by
      exact ⟨s.dropLast, s.getLast (by rw [e]; simp), (List.dropLast_concat_getLast (by rw [e]; simp)).symm⟩
    rw [List.all_append, Bool.and_eq_true] at hd
    have hb : 48 ≤ b.toNat ∧ b.toNat ≤ 57 := by simpa [digB] using hd.2
    have ht : t.length = n + 1 := by simpa using hl
    obtain ⟨d, q, rfl⟩ : ∃ d q, t = d :: q := by
      cases t with
      | nil => simp at ht
      | cons d q => exact ⟨d, q, rfl⟩
    have hdc : d = c := by
      have : d :: (q ++ [b]) = c :: r := e
      exact (List.cons.inj this).1
    have ih := digits_of n (d :: q) ht hd.1 (.inr ⟨d, q, rfl, by rw [hdc]; exact hc⟩)
    have hv : 1 ≤ valD 0 (d :: q) := by
      rcases Nat.eq_zero_or_pos (valD 0 (d :: q)) with h | h
      · rw [h] at ih
        have h0 : Lib.decDigits 0 = [48] := by rw [Lib.decDigits, dif_pos (by decide)]; rfl
        rw [h0] at ih
        have : d = 48 := (List.cons.inj ih).1.symm
        rw [← hdc, this] at hc
        exact absurd rfl hc
      · exact h
    rw [valD_snoc, Lib.decDigits, dif_neg (by omega)]
    have e1 : (valD 0 (d :: q) * 10 + (b.toNat - 48)) / 10 = valD 0 (d :: q) := by omega
    have e2 : (valD 0 (d :: q) * 10 + (b.toNat - 48)) % 10 = b.toNat - 48 := by omega
    rw [e1, e2, ih]
    congr 2
    refine UInt8.toNat_inj.1 ?_
    rw [digit_byte (by omega)]
    omega

/-- is the text the numeral of a number of at most m -/
def numOK (m : Nat) (s : List UInt8) : Bool := decide (s = Lib.decDigits (valD 0 s)) && decide (valD 0 s ≤ m)

theorem numOK_iff {m : Nat} {s : List UInt8} : numOK m s = true ↔ ∃ k, k ≤ m ∧ s = Lib.decDigits k := by
  unfold numOK
  rw [Bool.and_eq_true, decide_eq_true_eq, decide_eq_true_eq]
  constructor
  · exact fun ⟨h1, h2⟩ => ⟨_, h2, h1⟩
  · rintro ⟨k, hk, rfl⟩
    have := (decDigits_val' k).2.1
    rw [this]
    exact ⟨rfl, hk⟩

theorem parseUintM_ok : ∀ (l : List UInt8) (acc : Nat), l.all digB = true → valD acc l ≤ 999999999999999999 → Lib.parseUintM (2 ^ 64 - 1) acc l = .ok (valD acc l)
  | [], _, _, _ => rfl
  | c :: r, acc, hd, hv => by
    rw [List.all_cons, Bool.and_eq_true] at hd
    have hc : 48 ≤ c.toNat ∧ c.toNat ≤ 57 := by simpa [digB] using hd.1
    have hv' : valD (acc * 10 + (c.toNat - 48)) r ≤ 999999999999999999 := hv
    have hge := valD_ge r (acc * 10 + (c.toNat - 48))
    unfold Lib.parseUintM
    rw [if_pos hc, if_neg (by omega), if_neg (by omega), parseUintM_ok r _ hd.2 hv']
    rfl

theorem parseInt64_digits {k : Nat} (hk : k ≤ 999999999999999999) : parseInt64 (Lib.decDigits k) = ((k : Int), true) := by
  obtain ⟨h1, h2, _⟩ := decDigits_val' k
  have hp := parseUintM_ok (Lib.decDigits k) 0 h1 (by rw [h2]; exact hk)
  rw [h2] at hp
  have hne := decDigits_pos k
  unfold parseInt64
  have : Lib.parseIntB 64 (Lib.decDigits k) = .ok (k : Int) := by
    cases hd : Lib.decDigits k with
    | nil => rw [hd] at hne; simp at hne
    | cons c r =>
      rw [hd, List.all_cons, Bool.and_eq_true] at h1
      have hc : 48 ≤ c.toNat ∧ c.toNat ≤ 57 := by simpa [digB] using h1.1
      rw [hd] at hp
      unfold Lib.parseIntB
      simp only [if_neg (show ¬ (c.toNat = 43 ∨ c.toNat = 45) by omega), Lib.parseUintB, if_neg (show ¬ (c :: r = []) by simp), hp]
      rw [if_neg (by omega), if_neg (by omega), if_neg (by omega)]
  rw [this]

theorem parseInt64_bounds (s : List UInt8) : -9223372036854775808 ≤ (parseInt64 s).1 ∧ (parseInt64 s).1 ≤ 9223372036854775807 := by
  unfold parseInt64
  cases h : Lib.parseIntB 64 s with
  | ok v =>
    have := Lib.parseIntB_bounds (B := 64) h
    simp at this ⊢
    omega
  | range =>
    show -9223372036854775808 ≤ Lib.intSat 64 s ∧ Lib.intSat 64 s ≤ 9223372036854775807
    unfold Lib.intSat
    split <;> decide
  | _ => exact ⟨by show (-9223372036854775808 : Int) ≤ 0; decide, by show (0 : Int) ≤ 9223372036854775807; decide⟩

theorem strconv_ParseInt_ok {s : List UInt8} (h : s.length ≤ 1048576) : strconv_ParseInt s 10 64 = some (((parseInt64 s).1, (parseInt64 s).2, ()), ()) := by
  unfold strconv_ParseInt
  rw [iEq_self, iEq_self, Nat.ble_eq_true_of_le (by omega)]
  rfl

theorem itoa_pos {n : Int} (h : 0 ≤ n) : Lib.itoa n = Lib.decDigits n.toNat := by
  unfold Lib.itoa
  rw [if_neg (by omega)]

theorem numOK_parse {m : Nat} {s : List UInt8} (hm : m ≤ 999999999999999999) (h : numOK m s = true) : (parseInt64 s) = ((valD 0 s : Int), true) ∧ Lib.itoa (valD 0 s : Int) = s ∧ valD 0 s ≤ m := by
  obtain ⟨k, hk, e⟩ := numOK_iff.1 h
  have hv : valD 0 s = k := by rw [e]; exact (decDigits_val' k).2.1
  rw [hv]
  refine ⟨by rw [e]; exact parseInt64_digits (by omega), ?_, hk⟩
  rw [itoa_nat, e]

theorem numOK_false {m : Nat} {s : List UInt8} (h : numOK m s = false) {n : Int} (h0 : 0 ≤ n) (h1 : n ≤ m) : Lib.itoa n ≠ s := by
  intro e
  have : numOK m s = true := numOK_iff.2 ⟨n.toNat, by omega, by rw [← e, itoa_pos h0]⟩
  rw [this] at h
  cases h

/-! ### the reference's numerals -/
theorem l01Number_run {s : List UInt8} (hs : s.length ≤ 9) : ∀ (r q : List UInt8) (acc : Nat), s = q ++ r → acc < 10 ^ q.length →
    run (spec_l01Number_l5 s) ((acc : Int), (q.length : Int), ()) = some ((bif r.all digB then ((valD acc r : Int), true, ()) else (0, false, ())), ()) := by
  intro r
  induction r with
  | nil =>
    intro q acc e ha
    refine run_done ?_
    rw [List.append_nil] at e
    have e1 : iLt (q.length : Int) (lenI s) = false := iLt_neg (by rw [lenI_eq, e]; omega)
    simp only [spec_l01Number_l5, e1, cond_false]
    rfl
  | cons b r ih =>
    intro q acc e ha
    have hl : s.length = q.length + (r.length + 1) := by rw [e]; simp
    have e1 : iLt (q.length : Int) (lenI s) = true := iLt_pos (by rw [lenI_eq]; omega)
    have e2 : inB (q.length : Int) s.length = true := inB_pos (by omega)
    have e3 : strAt s (q.length : Int) = byteI b := by rw [strAt_nat, e]; simp [List.getD_eq_getElem?_getD]
    have e5 : iAdd .i64 (q.length : Int) 1 = ((q.length + 1 : Nat) : Int) := iAdd_one (n := s.length) (by omega) (by omega)
    have hpw : 10 ^ q.length ≤ 10 ^ 8 := Nat.pow_le_pow_right (by decide) (by omega)
    by_cases h1 : byteI b < 48
    · have : digB b = false := by unfold digB; unfold byteI at h1; simp; omega
      rw [List.all_cons, this, Bool.false_and]
      refine run_done ?_
      simp only [spec_l01Number_l5, e1, e2, e3, iLt_pos h1, cond_true]
      rfl
    · by_cases h2 : 57 < byteI b
      · have : digB b = false := by unfold digB; unfold byteI at h2; simp; omega
        rw [List.all_cons, this, Bool.false_and]
        refine run_done ?_
        simp only [spec_l01Number_l5, e1, e2, e3, iLt_neg h1, iLt_pos h2, cond_true, cond_false]
        rfl
      · have hd : digB b = true := by unfold digB; unfold byteI at h1 h2; simp; omega
        have e6 : iWrap .i64 (iSub .u8 (byteI b) 48) = ((b.toNat - 48 : Nat) : Int) := by
          have e7 : iSub .u8 (byteI b) 48 = ((b.toNat - 48 : Nat) : Int) := by
            unfold byteI at h1 h2 ⊢
            simp [iSub, IntKind.wrap, IntKind.signed, IntKind.bits]; omega
          rw [e7]
          exact wrap_i64 (by omega) (by unfold byteI at h2; omega)
        have e8 : iAdd .i64 (iMul .i64 (acc : Int) 10) ((b.toNat - 48 : Nat) : Int) = ((acc * 10 + (b.toNat - 48) : Nat) : Int) := by
          unfold byteI at h2
          rw [iMul_eq (by omega) (by omega), iAdd_eq (by omega) (by omega)]
          omega
        have st : spec_l01Number_l5 s ((acc : Int), (q.length : Int), ()) = some (.inl (((acc * 10 + (b.toNat - 48) : Nat) : Int), ((q.length + 1 : Nat) : Int), ())) := by
          simp only [spec_l01Number_l5, e1, e2, e3, e5, e6, e8, iLt_neg h1, iLt_neg h2, cond_true, cond_false]
        rw [run_step st]
        have := ih (q ++ [b]) (acc * 10 + (b.toNat - 48)) (by rw [e]; simp) (by rw [List.length_append, List.length_singleton, Nat.pow_succ]; unfold byteI at h2; omega)
        rw [show (q ++ [b]).length = q.length + 1 by simp] at this
        rw [this, List.all_cons, hd]
        rfl

theorem valD_lt : ∀ (l : List UInt8) (acc n : Nat), l.all digB = true → acc < 10 ^ n → valD acc l < 10 ^ (n + l.length)
  | [], _, _, _, h => h
  | b :: l, acc, n, hd, h => by
    rw [List.all_cons, Bool.and_eq_true] at hd
    have hb : 48 ≤ b.toNat ∧ b.toNat ≤ 57 := by simpa [digB] using hd.1
    have := valD_lt l (acc * 10 + (b.toNat - 48)) (n + 1) hd.2 (by rw [Nat.pow_succ]; omega)
    rw [List.length_cons, show n + (l.length + 1) = n + 1 + l.length by omega]
    exact this

theorem spec_l01Number_ok (s : List UInt8) : spec_l01Number s = some ((bif numOK 999999999 s then ((valD 0 s : Int), true, ()) else (0, false, ())), ()) ∨ (numOK 999999999 s = false ∧ ∃ n, spec_l01Number s = some ((n, false, ()), ())) := by
  have h52 : spec_l01Number_l5_2 = spec_l01Number_l5 := rfl
  unfold spec_l01Number
  by_cases h1 : lenI s < 1
  · have : s = [] := by rw [lenI_eq] at h1; exact List.length_eq_zero_iff.1 (by omega)
    subst this
    refine .inr ⟨?_, 0, by rw [iLt_pos h1]; rfl⟩
    rw [← Bool.not_eq_true, numOK_iff]
    rintro ⟨k, _, e⟩
    have := decDigits_pos k
    rw [← e] at this
    simp at this
  · by_cases h9 : 9 < lenI s
    · refine .inr ⟨?_, 0, by rw [iLt_neg h1, iLt_pos h9]; rfl⟩
      rw [← Bool.not_eq_true, numOK_iff]
      rintro ⟨k, hk, e⟩
      have := (decDigits_val 8 k (by omega)).2.2.1
      rw [← e] at this
      rw [lenI_eq] at h9
      omega
    · rw [lenI_eq] at h1 h9
      have i0 : inB 0 s.length = true := inB_pos (i := 0) (by omega)
      have hrun := l01Number_run (s := s) (by omega) s [] 0 (by simp) (by simp)
      rw [lenI_eq, iLt_neg h1, iLt_neg h9]
      simp only [cond_false, cond_true, i0, h52]
      obtain ⟨c, r, rfl⟩ : ∃ c r, s = c :: r := by
        cases s with
        | nil => simp at h1
        | cons c r => exact ⟨c, r, rfl⟩
      have ec : strAt (c :: r) 0 = byteI c := rfl
      have key : (byteI c ≠ 48 ∨ r = []) → run (spec_l01Number_l5 (c :: r)) (0, 0, ()) = some ((bif numOK 999999999 (c :: r) then ((valD 0 (c :: r) : Int), true, ()) else (0, false, ())), ()) := by
        intro hlead
        have hrun : run (spec_l01Number_l5 (c :: r)) (0, 0, ()) = _ := hrun
        rw [hrun]
        cases hd : (c :: r).all digB with
        | true =>
          have hn : numOK 999999999 (c :: r) = true := by
            refine numOK_iff.2 ⟨valD 0 (c :: r), ?_, (digits_of r.length (c :: r) (by simp) hd ?_).symm⟩
            · have := valD_lt (c :: r) 0 0 hd (by decide)
              have h2 : 10 ^ (0 + (c :: r).length) ≤ 10 ^ 9 := Nat.pow_le_pow_right (by decide) (by omega)
              omega
            · rcases hlead with h | h
              · exact .inr ⟨c, r, rfl, fun e => h (by unfold byteI; omega)⟩
              · exact .inl (by rw [h]; rfl)
          rw [hn]
        | false =>
          have hn : numOK 999999999 (c :: r) = false := by
            rw [← Bool.not_eq_true, numOK_iff]
            rintro ⟨k, _, e⟩
            rw [e, (decDigits_val' k).1] at hd
            cases hd
          rw [hn]
      rw [ec]
      by_cases h48 : byteI c = 48
      · rw [iEq_pos h48]
        by_cases h11 : (1 : Int) < ((c :: r).length : Int)
        · refine .inr ⟨?_, 0, by rw [iLt_pos h11]; rfl⟩
          rw [← Bool.not_eq_true, numOK_iff]
          rintro ⟨k, _, e⟩
          rcases Nat.eq_zero_or_pos k with rfl | hk
          · rw [show Lib.decDigits 0 = [48] by rw [Lib.decDigits, dif_pos (by decide)]; rfl] at e
            rw [e] at h11
            simp at h11
          · obtain ⟨_, _, hh⟩ := decDigits_val' k
            obtain ⟨c', r', e', hc'⟩ := hh hk
            rw [e'] at e
            have := (List.cons.inj e).1
            rw [← this] at hc'
            exact hc' (by unfold byteI at h48; omega)
        · have hr : r = [] := by
            cases r with
            | nil => rfl
            | cons d r => simp at h11; omega
          rw [iLt_neg h11]
          exact .inl (key (.inr hr))
      · rw [iEq_neg h48]
        exact .inl (key (.inl h48))

/-- the reference's numeral: the value where it is one -/
theorem l01Number_val (s : List UInt8) : ∃ n : Int, spec_l01Number s = some ((n, numOK 999999999 s, ()), ()) ∧ (numOK 999999999 s = true → n = (valD 0 s : Int)) := by
  rcases spec_l01Number_ok s with h | ⟨h, n, h'⟩
  · cases hn : numOK 999999999 s with
    | true => rw [hn] at h; exact ⟨_, h, fun _ => rfl⟩
    | false => rw [hn] at h; exact ⟨_, h, fun h => by cases h⟩
  · exact ⟨n, by rw [h]; exact h', fun h'' => by rw [h] at h''; cases h''⟩
end Go.Proofs.YtdmaamakckochaaGreatDoor
