import Derived.Test.YtildomllnnnofaaGreatP3
/- Functions of the program and of the reference in plain terms. -/
namespace Go.Proofs.YtildomllnnnofaaGreat
open Go Go.Tm
set_option linter.unusedVariables false
set_option linter.unusedSimpArgs false
set_option linter.unusedSectionVars false
def digB (b : UInt8) : Bool := decide (48 ≤ b.toNat) && decide (b.toNat ≤ 57)
def valD (acc : Nat) (l : List UInt8) : Nat := l.foldl (fun a b => a * 10 + (b.toNat - 48)) acc
theorem qp2 (acc : Nat) (l : List UInt8) (b : UInt8) : valD acc (l ++ [b]) = valD acc l * 10 + (b.toNat - 48) := by
  unfold valD
  rw [List.foldl_append]
  rfl
theorem qti : ∀ (l : List UInt8) (acc : Nat), acc ≤ valD acc l
  | [], _ => Nat.le_refl _
  | b :: l, acc => by
    have := qti l (acc * 10 + (b.toNat - 48))
    show acc ≤ valD (acc * 10 + (b.toNat - 48)) l
    omega
theorem qgs {d : Nat} (h : d < 10) : (UInt8.ofNat (48 + d)).toNat = 48 + d := by
  rw [UInt8.toNat_ofNat']
  omega
theorem qc5 : ∀ (k u : Nat), u < 10 ^ (k + 1) → (Lib.decDigits u).all digB = true ∧ valD 0 (Lib.decDigits u) = u ∧ (Lib.decDigits u).length ≤ k + 1 ∧ (1 ≤ u → ∃ c r, Lib.decDigits u = c :: r ∧ c.toNat ≠ 48)
  | 0, u, h => by
    have h : u < 10 := by simpa using h
    have e : Lib.decDigits u = [UInt8.ofNat (48 + u)] := by rw [Lib.decDigits, dif_pos h]
    have hb := qgs h
    rw [e]
    refine ⟨?_, ?_, by simp, fun h1 => ⟨_, _, rfl, by omega⟩⟩
    · simp [digB, hb]; omega
    · show 0 * 10 + ((UInt8.ofNat (48 + u)).toNat - 48) = u
      omega
  | k + 1, u, h => by
    by_cases hu : u < 10
    · obtain ⟨h1, h2, h3, h4⟩ := qc5 0 u (by simpa using hu)
      exact ⟨h1, h2, by omega, h4⟩
    · have e : Lib.decDigits u = Lib.decDigits (u / 10) ++ [UInt8.ofNat (48 + u % 10)] := by rw [Lib.decDigits, dif_neg hu]
      obtain ⟨h1, h2, h3, h4⟩ := qc5 k (u / 10) (by rw [Nat.pow_succ] at h; omega)
      have hb := qgs (d := u % 10) (by omega)
      obtain ⟨c, r, e2, hc⟩ := h4 (by omega)
      rw [e]
      refine ⟨?_, ?_, by simp; omega, fun _ => ⟨c, r ++ [UInt8.ofNat (48 + u % 10)], by rw [e2]; rfl, hc⟩⟩
      · rw [List.all_append, h1]; simp [digB, hb]; omega
      · rw [qp2, h2, hb]; omega
theorem qbs (u : Nat) : (Lib.decDigits u).all digB = true ∧ valD 0 (Lib.decDigits u) = u ∧ (1 ≤ u → ∃ c r, Lib.decDigits u = c :: r ∧ c.toNat ≠ 48) := by
  obtain ⟨h1, h2, _, h4⟩ := qc5 u u (Nat.lt_of_lt_of_le (Nat.lt_pow_self (by decide : 1 < 10)) (Nat.pow_le_pow_right (by decide) (Nat.le_succ u)))
  exact ⟨h1, h2, h4⟩
theorem qqi : ∀ (n : Nat) (s : List UInt8), s.length = n + 1 → s.all digB = true → (n = 0 ∨ ∃ c r, s = c :: r ∧ c.toNat ≠ 48) → Lib.decDigits (valD 0 s) = s
  | 0, s, hl, hd, _ => by
    obtain ⟨b, rfl⟩ : ∃ b, s = [b] := by
      match s, hl with
      | [b], _ => exact ⟨b, rfl⟩
    have hb : 48 ≤ b.toNat ∧ b.toNat ≤ 57 := by simpa [digB] using hd
    have : valD 0 [b] = b.toNat - 48 := by show 0 * 10 + (b.toNat - 48) = _; omega
    rw [this, Lib.decDigits, dif_pos (by omega)]
    congr 1
    refine UInt8.toNat_inj.1 ?_
    rw [qgs (by omega)]
    omega
  | n + 1, s, hl, hd, h0 => by
    obtain ⟨c, r, e, hc⟩ : ∃ c r, s = c :: r ∧ c.toNat ≠ 48 := by
      rcases h0 with h0 | h0
      · omega
      · exact h0
    obtain ⟨t, b, rfl⟩ : ∃ t b, s = t ++ [b] := by
      exact ⟨s.dropLast, s.getLast (by rw [e]; simp), (List.dropLast_concat_getLast (by rw [e]; simp)).symm⟩
    rw [List.all_append, Bool.and_eq_true] at hd
    have hb : 48 ≤ b.toNat ∧ b.toNat ≤ 57 := by simpa [digB] using hd.2
    have ht : t.length = n + 1 := by simpa using hl
    obtain ⟨d, q, rfl⟩ : ∃ d q, t = d :: q := by
      cases t with
      | nil => simp at ht
      | cons d q => exact ⟨d, q, rfl⟩
    have hdc : d = c := by
      have : d :: (q ++ [b]) = c :: r := e
      exact (List.cons.inj this).1
    have ih := qqi n (d :: q) ht hd.1 (.inr ⟨d, q, rfl, by rw [hdc]; exact hc⟩)
    have hv : 1 ≤ valD 0 (d :: q) := by
      rcases Nat.eq_zero_or_pos (valD 0 (d :: q)) with h | h
      · rw [h] at ih
        have h0 : Lib.decDigits 0 = [48] := by rw [Lib.decDigits, dif_pos (by decide)]; rfl
        rw [h0] at ih
        have : d = 48 := (List.cons.inj ih).1.symm
        rw [← hdc, this] at hc
        exact absurd rfl hc
      · exact h
    rw [qp2, Lib.decDigits, dif_neg (by omega)]
    have e1 : (valD 0 (d :: q) * 10 + (b.toNat - 48)) / 10 = valD 0 (d :: q) := by omega
    have e2 : (valD 0 (d :: q) * 10 + (b.toNat - 48)) % 10 = b.toNat - 48 := by omega
    rw [e1, e2, ih]
    congr 2
    refine UInt8.toNat_inj.1 ?_
    rw [qgs (by omega)]
    omega
def numOK (m : Nat) (s : List UInt8) : Bool := decide (s = Lib.decDigits (valD 0 s)) && decide (valD 0 s ≤ m)
theorem numOK_iff {m : Nat} {s : List UInt8} : numOK m s = true ↔ ∃ k, k ≤ m ∧ s = Lib.decDigits k := by
  unfold numOK
  rw [Bool.and_eq_true, decide_eq_true_eq, decide_eq_true_eq]
  constructor
  · exact fun ⟨h1, h2⟩ => ⟨_, h2, h1⟩
  · rintro ⟨k, hk, rfl⟩
    have := (qbs k).2.1
    rw [this]
    exact ⟨rfl, hk⟩
theorem qjt : ∀ (l : List UInt8) (acc : Nat), l.all digB = true → valD acc l ≤ 999999999999999999 → Lib.parseUintM (2 ^ 64 - 1) acc l = .ok (valD acc l)
  | [], _, _, _ => rfl
  | c :: r, acc, hd, hv => by
    rw [List.all_cons, Bool.and_eq_true] at hd
    have hc : 48 ≤ c.toNat ∧ c.toNat ≤ 57 := by simpa [digB] using hd.1
    have hv' : valD (acc * 10 + (c.toNat - 48)) r ≤ 999999999999999999 := hv
    have hge := qti r (acc * 10 + (c.toNat - 48))
    unfold Lib.parseUintM
    rw [if_pos hc, if_neg (by omega), if_neg (by omega), qjt r _ hd.2 hv']
    rfl
theorem qlw {k : Nat} (hk : k ≤ 999999999999999999) : parseInt64 (Lib.decDigits k) = ((k : Int), true) := by
  obtain ⟨h1, h2, _⟩ := qbs k
  have hp := qjt (Lib.decDigits k) 0 h1 (by rw [h2]; exact hk)
  rw [h2] at hp
  have hne := qjs k
  unfold parseInt64
  have : Lib.parseIntB 64 (Lib.decDigits k) = .ok (k : Int) := by
    cases hd : Lib.decDigits k with
    | nil => rw [hd] at hne; simp at hne
    | cons c r =>
      rw [hd, List.all_cons, Bool.and_eq_true] at h1
      have hc : 48 ≤ c.toNat ∧ c.toNat ≤ 57 := by simpa [digB] using h1.1
      rw [hd] at hp
      unfold Lib.parseIntB
      simp only [if_neg (show ¬ (c.toNat = 43 ∨ c.toNat = 45) by omega), Lib.parseUintB, if_neg (show ¬ (c :: r = []) by simp), hp]
      rw [if_neg (by omega), if_neg (by omega), if_neg (by omega)]
  rw [this]
theorem qmc (s : List UInt8) : -9223372036854775808 ≤ (parseInt64 s).1 ∧ (parseInt64 s).1 ≤ 9223372036854775807 := by
  unfold parseInt64
  cases h : Lib.parseIntB 64 s with
  | ok v =>
    have := Lib.parseIntB_bounds (B := 64) h
    simp at this ⊢
    omega
  | range =>
    show -9223372036854775808 ≤ Lib.intSat 64 s ∧ Lib.intSat 64 s ≤ 9223372036854775807
    unfold Lib.intSat
    split <;> decide
  | _ => exact ⟨by show (-9223372036854775808 : Int) ≤ 0; decide, by show (0 : Int) ≤ 9223372036854775807; decide⟩
theorem qjv {s : List UInt8} (h : s.length ≤ 1048576) : strconv_ParseInt s 10 64 = some (((parseInt64 s).1, (parseInt64 s).2, ()), ()) := by
  unfold strconv_ParseInt
  rw [qck, qck, Nat.ble_eq_true_of_le (by omega)]
  rfl
theorem qya {n : Int} (h : 0 ≤ n) : Lib.itoa n = Lib.decDigits n.toNat := by
  unfold Lib.itoa
  rw [if_neg (by omega)]
theorem qc8 {m : Nat} {s : List UInt8} (hm : m ≤ 999999999999999999) (h : numOK m s = true) : (parseInt64 s) = ((valD 0 s : Int), true) ∧ Lib.itoa (valD 0 s : Int) = s ∧ valD 0 s ≤ m := by
  obtain ⟨k, hk, e⟩ := numOK_iff.1 h
  have hv : valD 0 s = k := by rw [e]; exact (qbs k).2.1
  rw [hv]
  refine ⟨by rw [e]; exact qlw (by omega), ?_, hk⟩
  rw [qyj, e]
theorem qs8 {m : Nat} {s : List UInt8} (h : numOK m s = false) {n : Int} (h0 : 0 ≤ n) (h1 : n ≤ m) : Lib.itoa n ≠ s := by
  intro e
  have : numOK m s = true := numOK_iff.2 ⟨n.toNat, by omega, by rw [← e, qya h0]⟩
  rw [this] at h
  cases h
theorem qq0 {s : List UInt8} (hs : s.length ≤ 9) : ∀ (r q : List UInt8) (acc : Nat), s = q ++ r → acc < 10 ^ q.length →
    run (spec_l01Number_l5 s) ((acc : Int), (q.length : Int), ()) = some ((bif r.all digB then ((valD acc r : Int), true, ()) else (0, false, ())), ()) := by
  intro r
  induction r with
  | nil =>
    intro q acc e ha
    refine qaj ?_
    rw [List.append_nil] at e
    have e1 : iLt (q.length : Int) (lenI s) = false := qag (by rw [qaa, e]; omega)
    simp only [spec_l01Number_l5, e1, cond_false]
    rfl
  | cons b r ih =>
    intro q acc e ha
    have hl : s.length = q.length + (r.length + 1) := by rw [e]; simp
    have e1 : iLt (q.length : Int) (lenI s) = true := qah (by rw [qaa]; omega)
    have e2 : inB (q.length : Int) s.length = true := qaf (by omega)
    have e3 : strAt s (q.length : Int) = byteI b := by rw [qqo, e]; simp [List.getD_eq_getElem?_getD]
    have e5 : iAdd .i64 (q.length : Int) 1 = ((q.length + 1 : Nat) : Int) := qap (n := s.length) (by omega) (by omega)
    have hpw : 10 ^ q.length ≤ 10 ^ 8 := Nat.pow_le_pow_right (by decide) (by omega)
    by_cases h1 : byteI b < 48
    · have : digB b = false := by unfold digB; unfold byteI at h1; simp; omega
      rw [List.all_cons, this, Bool.false_and]
      refine qaj ?_
      simp only [spec_l01Number_l5, e1, e2, e3, qah h1, cond_true]
      rfl
    · by_cases h2 : 57 < byteI b
      · have : digB b = false := by unfold digB; unfold byteI at h2; simp; omega
        rw [List.all_cons, this, Bool.false_and]
        refine qaj ?_
        simp only [spec_l01Number_l5, e1, e2, e3, qag h1, qah h2, cond_true, cond_false]
        rfl
      · have hd : digB b = true := by unfold digB; unfold byteI at h1 h2; simp; omega
        have e6 : iWrap .i64 (iSub .u8 (byteI b) 48) = ((b.toNat - 48 : Nat) : Int) := by
          have e7 : iSub .u8 (byteI b) 48 = ((b.toNat - 48 : Nat) : Int) := by
            unfold byteI at h1 h2 ⊢
            simp [iSub, IntKind.wrap, IntKind.signed, IntKind.bits]; omega
          rw [e7]
          exact qed (by omega) (by unfold byteI at h2; omega)
        have e8 : iAdd .i64 (iMul .i64 (acc : Int) 10) ((b.toNat - 48 : Nat) : Int) = ((acc * 10 + (b.toNat - 48) : Nat) : Int) := by
          unfold byteI at h2
          rw [qlk (by omega) (by omega), qa8 (by omega) (by omega)]
          omega
        have st : spec_l01Number_l5 s ((acc : Int), (q.length : Int), ()) = some (.inl (((acc * 10 + (b.toNat - 48) : Nat) : Int), ((q.length + 1 : Nat) : Int), ())) := by
          simp only [spec_l01Number_l5, e1, e2, e3, e5, e6, e8, qag h1, qag h2, cond_true, cond_false]
        rw [qad st]
        have := ih (q ++ [b]) (acc * 10 + (b.toNat - 48)) (by rw [e]; simp) (by rw [List.length_append, List.length_singleton, Nat.pow_succ]; unfold byteI at h2; omega)
        rw [show (q ++ [b]).length = q.length + 1 by simp] at this
        rw [this, List.all_cons, hd]
        rfl
theorem qoz : ∀ (l : List UInt8) (acc n : Nat), l.all digB = true → acc < 10 ^ n → valD acc l < 10 ^ (n + l.length)
  | [], _, _, _, h => h
  | b :: l, acc, n, hd, h => by
    rw [List.all_cons, Bool.and_eq_true] at hd
    have hb : 48 ≤ b.toNat ∧ b.toNat ≤ 57 := by simpa [digB] using hd.1
    have := qoz l (acc * 10 + (b.toNat - 48)) (n + 1) hd.2 (by rw [Nat.pow_succ]; omega)
    rw [List.length_cons, show n + (l.length + 1) = n + 1 + l.length by omega]
    exact this
theorem qlu (s : List UInt8) : spec_l01Number s = some ((bif numOK 999999999 s then ((valD 0 s : Int), true, ()) else (0, false, ())), ()) ∨ (numOK 999999999 s = false ∧ ∃ n, spec_l01Number s = some ((n, false, ()), ())) := by
  have h52 : spec_l01Number_l5_2 = spec_l01Number_l5 := rfl
  unfold spec_l01Number
  by_cases h1 : lenI s < 1
  · have : s = [] := by rw [qaa] at h1; exact List.length_eq_zero_iff.1 (by omega)
    subst this
    refine .inr ⟨?_, 0, by rw [qah h1]; rfl⟩
    rw [← Bool.not_eq_true, numOK_iff]
    rintro ⟨k, _, e⟩
    have := qjs k
    rw [← e] at this
    simp at this
  · by_cases h9 : 9 < lenI s
    · refine .inr ⟨?_, 0, by rw [qag h1, qah h9]; rfl⟩
      rw [← Bool.not_eq_true, numOK_iff]
      rintro ⟨k, hk, e⟩
      have := (qc5 8 k (by omega)).2.2.1
      rw [← e] at this
      rw [qaa] at h9
      omega
    · rw [qaa] at h1 h9
      have i0 : inB 0 s.length = true := qaf (i := 0) (by omega)
      have hrun := qq0 (s := s) (by omega) s [] 0 (by simp) (by simp)
      rw [qaa, qag h1, qag h9]
      simp only [cond_false, cond_true, i0, h52]
      obtain ⟨c, r, rfl⟩ : ∃ c r, s = c :: r := by
        cases s with
        | nil => simp at h1
        | cons c r => exact ⟨c, r, rfl⟩
      have ec : strAt (c :: r) 0 = byteI c := rfl
      have key : (byteI c ≠ 48 ∨ r = []) → run (spec_l01Number_l5 (c :: r)) (0, 0, ()) = some ((bif numOK 999999999 (c :: r) then ((valD 0 (c :: r) : Int), true, ()) else (0, false, ())), ()) := by
        intro hlead
        have hrun : run (spec_l01Number_l5 (c :: r)) (0, 0, ()) = _ := hrun
        rw [hrun]
        cases hd : (c :: r).all digB with
        | true =>
          have hn : numOK 999999999 (c :: r) = true := by
            refine numOK_iff.2 ⟨valD 0 (c :: r), ?_, (qqi r.length (c :: r) (by simp) hd ?_).symm⟩
            · have := qoz (c :: r) 0 0 hd (by decide)
              have h2 : 10 ^ (0 + (c :: r).length) ≤ 10 ^ 9 := Nat.pow_le_pow_right (by decide) (by omega)
              omega
            · rcases hlead with h | h
              · exact .inr ⟨c, r, rfl, fun e => h (by unfold byteI; omega)⟩
              · exact .inl (by rw [h]; rfl)
          rw [hn]
        | false =>
          have hn : numOK 999999999 (c :: r) = false := by
            rw [← Bool.not_eq_true, numOK_iff]
            rintro ⟨k, _, e⟩
            rw [e, (qbs k).1] at hd
            cases hd
          rw [hn]
      rw [ec]
      by_cases h48 : byteI c = 48
      · rw [qlm h48]
        by_cases h11 : (1 : Int) < ((c :: r).length : Int)
        · refine .inr ⟨?_, 0, by rw [qah h11]; rfl⟩
          rw [← Bool.not_eq_true, numOK_iff]
          rintro ⟨k, _, e⟩
          rcases Nat.eq_zero_or_pos k with rfl | hk
          · rw [show Lib.decDigits 0 = [48] by rw [Lib.decDigits, dif_pos (by decide)]; rfl] at e
            rw [e] at h11
            simp at h11
          · obtain ⟨_, _, hh⟩ := qbs k
            obtain ⟨c', r', e', hc'⟩ := hh hk
            rw [e'] at e
            have := (List.cons.inj e).1
            rw [← this] at hc'
            exact hc' (by unfold byteI at h48; omega)
        · have hr : r = [] := by
            cases r with
            | nil => rfl
            | cons d r => simp at h11; omega
          rw [qag h11]
          exact .inl (key (.inr hr))
      · rw [qbm h48]
        exact .inl (key (.inl h48))
theorem qqw (s : List UInt8) : ∃ n : Int, spec_l01Number s = some ((n, numOK 999999999 s, ()), ()) ∧ (numOK 999999999 s = true → n = (valD 0 s : Int)) := by
  rcases qlu s with h | ⟨h, n, h'⟩
  · cases hn : numOK 999999999 s with
    | true => rw [hn] at h; exact ⟨_, h, fun _ => rfl⟩
    | false => rw [hn] at h; exact ⟨_, h, fun h => by cases h⟩
  · exact ⟨n, by rw [h]; exact h', fun h'' => by rw [h] at h''; cases h''⟩
end Go.Proofs.YtildomllnnnofaaGreat
