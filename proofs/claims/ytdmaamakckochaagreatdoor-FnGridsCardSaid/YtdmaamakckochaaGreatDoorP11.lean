/- Functions of the program and of the reference in plain terms. -/
import Derived.Test.YtdmaamakckochaaGreatDoorP10
namespace Go.Proofs.YtdmaamakckochaaGreatDoor
open Go Go.Tm
set_option linter.unusedVariables false
set_option linter.unusedSimpArgs false
set_option linter.unusedSectionVars false
/-! ### positive sums -/
theorem some_beq' (a b : Ordering) : ((some a : Option Ordering) == some b) = (a == b) := by cases a <;> cases b <;> rfl
theorem read_zero32 : FloatKind.f32.format.read 0 = .number false 0 (-149) := by decide

theorem pos_of_lt {x : Nat} (hf : finB x = true) (h : fLt .f32 0 x = true) : ∃ m p, FloatKind.f32.format.read x = .number false m p ∧ m ≠ 0 := by
  obtain ⟨s, m, p, hd⟩ := fin_number (k := .f32) hf
  have hd' : FloatKind.f32.format.read x = .number s m p := hd
  unfold fLt Ieee.Format.order at h
  rw [read_zero32, hd'] at h
  simp only [Ieee.Datum.order, some_beq'] at h
  rw [compare_lt] at h
  have h := of_decide_eq_true h
  cases s with
  | false =>
    refine ⟨m, p, hd', ?_⟩
    rintro rfl
    simp [Ieee.signed] at h
  | true =>
    exfalso
    have h0 : Ieee.signed false 0 (-149 - min (-149) p).toNat = 0 := by simp [Ieee.signed]
    have h1 : Ieee.signed true m (p - min (-149) p).toNat ≤ 0 := by
      unfold Ieee.signed
      rw [Nat.shiftLeft_eq]
      exact Int.neg_nonpos_of_nonneg (Int.natCast_nonneg _)
    omega

theorem lt_of_pos {x m : Nat} {p : Int} (h : FloatKind.f32.format.read x = .number false m p) (hm : m ≠ 0) : fLt .f32 0 x = true := by
  unfold fLt Ieee.Format.order
  rw [read_zero32, h]
  simp only [Ieee.Datum.order, some_beq']
  rw [compare_lt]
  apply decide_eq_true
  have : 0 < m * 2 ^ (p - min (-149) p).toNat := Nat.mul_pos (Nat.pos_of_ne_zero hm) (Nat.two_pow_pos _)
  have h0 : Ieee.signed false 0 (-149 - min (-149) p).toNat = 0 := by simp [Ieee.signed]
  have h1 : Ieee.signed false m (p - min (-149) p).toNat = ((m * 2 ^ (p - min (-149) p).toNat : Nat) : Int) := by
    unfold Ieee.signed
    rw [Nat.shiftLeft_eq]
    rfl
  rw [h0, h1]
  exact Int.ofNat_lt.2 this

theorem rung_pos {m : Nat} {p : Int} (hm : m ≠ 0) (hp : -149 ≤ p) : 1 ≤ rungOf FloatKind.f32.format m p := by
  unfold rungOf
  rw [if_neg hm]
  simp only
  have hinf : 1 ≤ FloatKind.f32.format.infRung := by decide
  have hbin : 1 ≤ FloatKind.f32.format.binade := by decide
  have hL : FloatKind.f32.format.leastPlace = -149 := rfl
  rw [hL]
  refine Nat.le_min.2 ⟨?_, hinf⟩
  by_cases hl : max (p + (m.log2 : Int) - FloatKind.f32.format.fractionBits) (-149) = -149
  · rw [hl]
    rw [show (-149 - p).toNat = 0 by omega, cut_zero, Nat.shiftLeft_eq]
    have : 0 < m * 2 ^ (p - -149).toNat := Nat.mul_pos (Nat.pos_of_ne_zero hm) (Nat.two_pow_pos _)
    omega
  · have h1 : 1 ≤ (max (p + (m.log2 : Int) - FloatKind.f32.format.fractionBits) (-149) - -149).toNat := by omega
    have := Nat.mul_le_mul h1 hbin
    omega

theorem single_low {x : Nat} {s : Bool} {m : Nat} {p : Int} (h : FloatKind.f32.format.read x = .number s m p) : -149 ≤ p := by
  have h : Ieee.single.read x = .number s m p := h
  unfold Ieee.Format.read at h
  simp only at h
  have e3 : Ieee.single.leastPlace = -149 := by decide
  rw [e3] at h
  split at h
  · cases h
    omega
  · split at h
    · cases h
      omega
    · split at h <;> cases h

/-- a finite sum of positive numbers is positive -/
theorem add_positive {a b : Nat} (ha : finB a = true) (ha0 : fLt .f32 0 a = true) (hb : finB b = true) (hb0 : fLt .f32 0 b = true) (hs : finB (fAdd .f32 a b) = true) : fLt .f32 0 (fAdd .f32 a b) = true := by
  obtain ⟨m, p, hda, hm⟩ := pos_of_lt ha ha0
  obtain ⟨n, q, hdb, hn⟩ := pos_of_lt hb hb0
  have lp := single_low hda
  have lq := single_low hdb
  generalize hM : m * 2 ^ (p - min p q).toNat + n * 2 ^ (q - min p q).toNat = M
  have hM0 : M ≠ 0 := by
    have : 0 < m * 2 ^ (p - min p q).toNat := Nat.mul_pos (Nat.pos_of_ne_zero hm) (Nat.two_pow_pos _)
    omega
  have e : fAdd .f32 a b = canon .f32 (FloatKind.f32.encode (.number false M (min p q))) := by
    unfold fAdd Ieee.Format.add
    rw [hda, hdb]
    have e : Ieee.signed false m (p - min p q).toNat + Ieee.signed false n (q - min p q).toNat = (M : Int) := by
      unfold Ieee.signed
      rw [Nat.shiftLeft_eq, Nat.shiftLeft_eq, ← hM]
      simp
    simp only [Ieee.Datum.sum, Option.map_some, orNan, e, Int.natAbs_natCast]
    have hg : (if (M : Int) = 0 then false && false else decide ((M : Int) < 0)) = false := by
      split
      · rfl
      · exact decide_eq_false (by omega)
    rw [hg]
    rfl
  have hn' : isNan .f32 (FloatKind.f32.encode (.number false M (min p q))) = false := write_nan rfl
  rw [canon_of_num hn'] at e
  have e2 : fAdd .f32 a b = FloatKind.f32.format.word false (rungOf FloatKind.f32.format M (min p q)) := e.trans (nearest_rungOf _ _ _ _)
  have hr1 := rung_pos hM0 (show -149 ≤ min p q by omega)
  have hle : rungOf FloatKind.f32.format M (min p q) ≤ FloatKind.f32.format.infRung := by
    unfold rungOf
    rw [if_neg hM0]
    exact Nat.min_le_right _ _
  generalize rungOf FloatKind.f32.format M (min p q) = r at e2 hr1 hle
  have hr : r < FloatKind.f32.format.infRung := by
    rcases Nat.lt_or_ge r FloatKind.f32.format.infRung with h | h
    · exact h
    · exfalso
      have : r = FloatKind.f32.format.infRung := by omega
      subst this
      rw [e2] at hs
      have hinf : finB (FloatKind.f32.format.word false FloatKind.f32.format.infRung) = false := by kernel_rfl
      rw [hinf] at hs
      exact absurd hs (by decide)
  have hbin : FloatKind.f32.format.binade = 8388608 := by decide
  obtain ⟨e', K, hK, hek, hK0⟩ : ∃ e' K, ((e' = 0 ∧ K < FloatKind.f32.format.binade) ∨ (FloatKind.f32.format.binade ≤ K ∧ K < 2 * FloatKind.f32.format.binade)) ∧ e' * FloatKind.f32.format.binade + K = r ∧ K ≠ 0 := by
    rw [hbin]
    by_cases h : r < 8388608
    · exact ⟨0, r, .inl ⟨rfl, h⟩, by rw [Nat.zero_mul, Nat.zero_add], Nat.pos_iff_ne_zero.1 hr1⟩
    · have hex : ∃ e' : Nat, e' + 1 = r / 8388608 := ⟨r / 8388608 - 1, Nat.sub_add_cancel (by omega)⟩
      obtain ⟨e', he'⟩ := hex
      have hex : ∃ K : Nat, K + e' * 8388608 = r := ⟨r - e' * 8388608, Nat.sub_add_cancel (by omega)⟩
      obtain ⟨K, hK⟩ := hex
      exact ⟨e', K, Or.inr ⟨by omega, by omega⟩, by omega, by omega⟩
  have hread := read_kept (f := FloatKind.f32.format) (s := false) hK (by rw [hek]; exact hr)
  rw [hek, ← e2] at hread
  exact lt_of_pos hread hK0

/-! ### marks in order -/
def ltC (a b : Vec 3 Int) : Prop := a.1 < b.1 ∨ (a.1 = b.1 ∧ (a.2.1 < b.2.1 ∨ (a.2.1 = b.2.1 ∧ a.2.2.1 < b.2.2.1)))
theorem ltC.trans {a b c : Vec 3 Int} (h : ltC a b) (h' : ltC b c) : ltC a c := by
  unfold ltC at *
  omega
theorem cmp_lt {a b : Vec 3 Int} : iLt (cmpI a b) 0 = true ↔ ltC a b := by
  obtain ⟨a0, a1, a2, ⟨⟩⟩ := a
  obtain ⟨b0, b1, b2, ⟨⟩⟩ := b
  show iLt (bif iLt a0 b0 then -1 else bif iLt b0 a0 then 1 else bif iLt a1 b1 then -1 else bif iLt b1 a1 then 1 else bif iLt a2 b2 then -1 else bif iLt b2 a2 then 1 else 0) 0 = true ↔ (a0 < b0 ∨ (a0 = b0 ∧ (a1 < b1 ∨ (a1 = b1 ∧ a2 < b2))))
  have k : ∀ x y : Int, iLt x y = decide (x < y) := fun _ _ => rfl
  by_cases h0 : a0 < b0
  · simp [k, h0]
  · by_cases h0' : b0 < a0
    · simp [k, h0, h0']; omega
    · have e0 : a0 = b0 := by omega
      subst e0
      by_cases h1 : a1 < b1
      · simp [k, h1]
      · by_cases h1' : b1 < a1
        · simp [k, h1, h1']; omega
        · have e1 : a1 = b1 := by omega
          subst e1
          by_cases h2 : a2 < b2
          · simp [k, h2]
          · by_cases h2' : b2 < a2
            · simp [k, h2, h2']
            · simp [k, h2, h2']

theorem cmp_tri (a b : Vec 3 Int) : ltC a b ∨ a = b ∨ ltC b a := by
  obtain ⟨a0, a1, a2, ⟨⟩⟩ := a
  obtain ⟨b0, b1, b2, ⟨⟩⟩ := b
  show (a0 < b0 ∨ (a0 = b0 ∧ (a1 < b1 ∨ (a1 = b1 ∧ a2 < b2)))) ∨ ((a0, a1, a2, ()) : Int × Int × Int × Unit) = (b0, b1, b2, ()) ∨ (b0 < a0 ∨ (b0 = a0 ∧ (b1 < a1 ∨ (b1 = a1 ∧ b2 < a2))))
  simp only [Prod.mk.injEq, and_true]
  omega
theorem ltC.irrefl {a : Vec 3 Int} (h : ltC a a) : False := by unfold ltC at h; omega

theorem mark_lt {a b : Vec 3 Int} : (!iLe (cmpI b a) 0) = true ↔ ltC a b := by
  rw [cmp_swap]
  rw [← cmp_lt]
  simp [iLe, iLt]

def Marks (l : List DMark) : Prop := (∀ x ∈ l, markB x = true) ∧ l.Pairwise fun a b => ltC a.1 b.1

theorem mapB_iff {m : DMap} : mapB m = true ↔ sideB m.1 = true ∧ m.2.1.length ≤ 200 ∧ Marks m.2.1 := by
  unfold mapB
  simp only [Bool.and_eq_true, Bool.not_eq_true', List.all_eq_true, List.mem_range]
  have hlen : iLt 200 (lenI m.2.1) = false ↔ m.2.1.length ≤ 200 := by
    rw [lenI_eq]; simp [iLt]; omega
  rw [hlen]
  refine and_congr_right fun _ => and_congr_right fun _ => ?_
  generalize m.2.1 = l
  constructor
  · intro h
    have hm : ∀ i (hi : i < l.length), markB l[i] = true ∧ (0 < i → ltC (l.getD (i - 1) zMark).1 l[i].1) := by
      intro i hi
      have := h i hi
      unfold markAt at this
      rw [Bool.and_eq_true, getD_of hi] at this
      refine ⟨this.1, fun h0 => ?_⟩
      have h2 := this.2
      have : Nat.beq i 0 = false := by
        cases i with
        | zero => omega
        | succ n => rfl
      rw [this] at h2
      exact mark_lt.1 h2
    refine ⟨fun x hx => ?_, ?_⟩
    · obtain ⟨i, hi, rfl⟩ := List.getElem_of_mem hx
      exact (hm i hi).1
    · rw [List.pairwise_iff_getElem]
      have key : ∀ (d i : Nat) (h1 : i + d + 1 < l.length), ltC (l[i]'(by omega)).1 l[i + d + 1].1 := by
        intro d
        induction d with
        | zero =>
          intro i h1
          have := (hm (i + 0 + 1) h1).2 (by omega)
          rw [show i + 0 + 1 - 1 = i by omega, getD_of (by omega)] at this
          exact this
        | succ d ih =>
          intro i h1
          have h2 := (hm (i + (d + 1) + 1) h1).2 (by omega)
          rw [getD_of (by omega)] at h2
          have h3 := ih i (by omega)
          exact h3.trans (by simpa [show i + (d + 1) + 1 - 1 = i + d + 1 by omega] using h2)
      intro i j hi hj hij
      have := key (j - i - 1) i (by omega)
      have e : i + (j - i - 1) + 1 = j := by omega
      simpa [e] using this
  · rintro ⟨h1, h2⟩ i hi
    unfold markAt
    rw [Bool.and_eq_true, getD_of hi]
    refine ⟨h1 _ (List.getElem_mem hi), ?_⟩
    cases i with
    | zero => rfl
    | succ n =>
      show (!iLe (cmpI l[n + 1].1 (l.getD (n + 1 - 1) zMark).1) 0) = true
      rw [show n + 1 - 1 = n by omega, getD_of (by omega)]
      exact mark_lt.2 (List.pairwise_iff_getElem.1 h2 n (n + 1) (by omega) hi (by omega))

/-! ### a mark's place -/
def placeN (l : List DMark) (c : Vec 3 Int) : Nat := (l.takeWhile fun y => iLt (cmpI y.1 c) 0).length
def eqC (a c : Vec 3 Int) : Bool := iEq (Vec.getD 3 a 0 (0 : Int)) (Vec.getD 3 c 0 (0 : Int)) && (iEq (Vec.getD 3 a 1 (0 : Int)) (Vec.getD 3 c 1 (0 : Int)) && (iEq (Vec.getD 3 a 2 (0 : Int)) (Vec.getD 3 c 2 (0 : Int)) && true))
def foundB (l : List DMark) (c : Vec 3 Int) : Bool := bif iLt (placeN l c : Int) (l.length : Int) then eqC (l.getD (placeN l c) zMark).1 c else false
theorem eqC_iff {a c : Vec 3 Int} : eqC a c = true ↔ a = c := by
  obtain ⟨a0, a1, a2, ⟨⟩⟩ := a
  obtain ⟨b0, b1, b2, ⟨⟩⟩ := c
  show (iEq a0 b0 && (iEq a1 b1 && (iEq a2 b2 && true))) = true ↔ ((a0, a1, a2, ()) : Int × Int × Int × Unit) = (b0, b1, b2, ())
  simp only [Bool.and_eq_true, Bool.and_true, iEq_true, Prod.mk.injEq, and_true]

theorem takeWhile_len {α : Type} (p : α → Bool) : ∀ l : List α, (l.takeWhile p).length ≤ l.length
  | [] => Nat.le_refl _
  | a :: l => by
    rw [List.takeWhile_cons]
    split
    · have := takeWhile_len p l
      simp; omega
    · simp

theorem placeN_le (l : List DMark) (c : Vec 3 Int) : placeN l c ≤ l.length := takeWhile_len _ l
theorem placeN_low : ∀ (l : List DMark) (c : Vec 3 Int) (i : Nat) (hi : i < placeN l c), iLt (cmpI (l[i]'(Nat.lt_of_lt_of_le hi (placeN_le l c))).1 c) 0 = true
  | [], _, _, hi => by cases hi
  | a :: l, c, i, hi => by
    cases h : iLt (cmpI a.1 c) 0 with
    | false =>
      exfalso
      unfold placeN at hi
      rw [List.takeWhile_cons, h] at hi
      exact absurd hi (by simp)
    | true =>
      cases i with
      | zero => exact h
      | succ i =>
        have hi' : i < placeN l c := by
          unfold placeN at hi
          rw [List.takeWhile_cons, h] at hi
          simp at hi
          exact hi
        exact placeN_low l c i hi'
theorem placeN_high : ∀ (l : List DMark) (c : Vec 3 Int) (hi : placeN l c < l.length), iLt (cmpI (l[placeN l c]'hi).1 c) 0 = false
  | [], _, hi => by cases hi
  | a :: l, c, hi => by
    cases h : iLt (cmpI a.1 c) 0 with
    | false =>
      have e : placeN (a :: l) c = 0 := by
        unfold placeN
        rw [List.takeWhile_cons, h]
        rfl
      simp only [e]
      exact h
    | true =>
      have e : placeN (a :: l) c = placeN l c + 1 := by
        unfold placeN
        rw [List.takeWhile_cons, h]
        rfl
      have hi' : placeN l c < l.length := by rw [e] at hi; simpa using hi
      simp only [e]
      exact placeN_high l c hi'

theorem spec_l05Find_ok {l : List DMark} (hl : l.length ≤ 1000000) (c : Vec 3 Int) : spec_l05Find l c = some (((placeN l c : Int), foundB l c, ()), ()) := by
  have hp := placeN_le l c
  unfold spec_l05Find
  have hend : spec_l05Find_l2 l c ((placeN l c : Int), ()) = some (.inr (((placeN l c : Int), foundB l c, ()), ())) := by
    unfold spec_l05Find_l2 foundB
    simp only [lenI_eq, Int.toNat_natCast, spec_l05Compare_ok, Option.bind_some]
    by_cases h : placeN l c < l.length
    · have e1 : iLt (placeN l c : Int) (l.length : Int) = true := iLt_pos (by omega)
      have e2 : inB (placeN l c : Int) l.length = true := inB_pos h
      have e3 := placeN_high l c h
      rw [← getD_of (d := zMark) h] at e3
      rw [e1, e2, e3]
      rfl
    · have e1 : iLt (placeN l c : Int) (l.length : Int) = false := iLt_neg (by omega)
      rw [e1]
      rfl
  have step : ∀ i : Nat, i < placeN l c → spec_l05Find_l2 l c ((i : Int), ()) = some (.inl (((i + 1 : Nat) : Int), ())) := by
    intro i hi
    have e1 : iLt (i : Int) (lenI l) = true := iLt_pos (by rw [lenI_eq]; omega)
    have e2 : inB (i : Int) l.length = true := inB_pos (by omega)
    have e3 := placeN_low l c i hi
    rw [← getD_of (d := zMark) (by omega)] at e3
    have e5 : iAdd .i64 (i : Int) 1 = ((i + 1 : Nat) : Int) := (iAdd_eq (by omega) (by omega)).trans (by omega)
    unfold spec_l05Find_l2
    simp only [Int.toNat_natCast, spec_l05Compare_ok, Option.bind_some]
    rw [e1, e2, e3, e5]
    rfl
  have key : ∀ (d i : Nat), i + d = placeN l c → run (spec_l05Find_l2 l c) ((i : Int), ()) = some (((placeN l c : Int), foundB l c, ()), ()) := by
    intro d
    induction d with
    | zero => intro i e; rw [show i = placeN l c by omega]; exact run_done hend
    | succ d ih => intro i e; rw [run_step (step i (by omega))]; exact ih (i + 1) (by omega)
  exact key (placeN l c) 0 (by omega)

theorem spec_l05Better_ok (a b : DMark) : ∃ v, spec_l05Better a b = some ((v, ()), ()) := by
  unfold spec_l05Better
  simp only [spec_l01Same_ok, Option.bind_some]
  generalize iEq a.2.2.2.2.1 b.2.2.2.2.1 = c1
  generalize fEq .f32 a.2.2.1 b.2.2.1 = c2
  generalize iEq a.2.2.2.1 b.2.2.2.1 = c3
  generalize fEq .f32 (Vec.getD 3 a.2.1 0 (0 : Nat)) (Vec.getD 3 b.2.1 0 (0 : Nat)) = c4
  generalize fEq .f32 (Vec.getD 3 a.2.1 1 (0 : Nat)) (Vec.getD 3 b.2.1 1 (0 : Nat)) = c5
  generalize fEq .f32 (Vec.getD 3 a.2.1 2 (0 : Nat)) (Vec.getD 3 b.2.1 2 (0 : Nat)) = c6
  generalize sameN (Vec.getD 3 a.2.1 0 (0 : Nat)) (Vec.getD 3 b.2.1 0 (0 : Nat)) = c7
  generalize sameN (Vec.getD 3 a.2.1 1 (0 : Nat)) (Vec.getD 3 b.2.1 1 (0 : Nat)) = c8
  generalize sameN (Vec.getD 3 a.2.1 2 (0 : Nat)) (Vec.getD 3 b.2.1 2 (0 : Nat)) = c9
  cases c1 <;> cases c2 <;> cases c3 <;> cases c4 <;> cases c5 <;> cases c6 <;> cases c7 <;> cases c8 <;> cases c9 <;> exact ⟨_, rfl⟩

/-- a mark put among marks -/
theorem put_ok {l : List DMark} (hl : l.length ≤ 1000) (x : DMark) : ∃ l', spec_l05Put l x = some ((l', ()), ()) ∧ l'.length ≤ l.length + 1 ∧ (Marks l → markB x = true → Marks l') := by
  have hp := placeN_le l x.1
  obtain ⟨b, hb⟩ := spec_l05Better_ok x (l.getD (placeN l x.1) zMark)
  have e1 : inS 0 (placeN l x.1 : Int) l.length = true := by unfold inS; simp; omega
  have et : takeL l (placeN l x.1 : Int) = l.take (placeN l x.1) := by unfold takeL; rw [Int.toNat_natCast]
  have hlt : (l.take (placeN l x.1)).length = placeN l x.1 := by rw [List.length_take]; omega
  have r1 : room (0 + (l.take (placeN l x.1)).length) 48 = true := room_pos (by omega)
  have r2 : room ((l.take (placeN l x.1)).length + 1) 48 = true := room_pos (by omega)
  have e2 : inS (placeN l x.1 : Int) (lenI l) l.length = true := by unfold inS; rw [lenI_eq]; simp; omega
  have ed : dropL l (placeN l x.1 : Int) = l.drop (placeN l x.1) := by unfold dropL; rw [Int.toNat_natCast]
  have hld : (l.drop (placeN l x.1)).length = l.length - placeN l x.1 := List.length_drop
  have hlow : ∀ y ∈ l.take (placeN l x.1), ltC y.1 x.1 := by
    intro y hy
    obtain ⟨i, hi, rfl⟩ := List.getElem_of_mem hy
    rw [List.getElem_take]
    exact cmp_lt.1 (placeN_low l x.1 i (by omega))
  unfold spec_l05Put
  rw [spec_l05Find_ok (by omega)]
  simp only [Option.bind_some]
  rw [e1, et, r1]
  simp only [cond_true, List.nil_append]
  cases hf : foundB l x.1 with
  | true =>
    have hi : placeN l x.1 < l.length := by
      rcases Nat.lt_or_ge (placeN l x.1) l.length with h | h
      · exact h
      · unfold foundB at hf
        rw [iLt_neg (by omega)] at hf
        cases hf
    have hc : (l[placeN l x.1]).1 = x.1 := by
      unfold foundB at hf
      rw [iLt_pos (by omega), getD_of hi] at hf
      exact eqC_iff.1 hf
    have e3 : inB (placeN l x.1 : Int) l.length = true := inB_pos hi
    have e5 : iAdd .i64 (placeN l x.1 : Int) 1 = ((placeN l x.1 + 1 : Nat) : Int) := (iAdd_eq (by omega) (by omega)).trans (by omega)
    have e6 : inS ((placeN l x.1 + 1 : Nat) : Int) (lenI l) l.length = true := by unfold inS; rw [lenI_eq]; simp; omega
    have ed1 : dropL l ((placeN l x.1 + 1 : Nat) : Int) = l.drop (placeN l x.1 + 1) := by unfold dropL; rw [Int.toNat_natCast]
    have hld1 : (l.drop (placeN l x.1 + 1)).length = l.length - (placeN l x.1 + 1) := List.length_drop
    have hsplit : l = l.take (placeN l x.1) ++ l[placeN l x.1] :: l.drop (placeN l x.1 + 1) := by
      rw [List.getElem_cons_drop, List.take_append_drop]
    simp only [cond_true, Int.toNat_natCast]
    rw [e3, hb, e2, ed, e5, e6, ed1]
    have r3 : room ((l.take (placeN l x.1) ++ [x]).length + (l.drop (placeN l x.1 + 1)).length) 48 = true := room_pos (by rw [List.length_append, hlt, hld1]; simp; omega)
    have r4 : room ((l.take (placeN l x.1)).length + (l.drop (placeN l x.1)).length) 48 = true := room_pos (by omega)
    rw [r2, r3, r4]
    simp only [cond_true, Option.bind_some]
    cases b with
    | true =>
      refine ⟨_, rfl, by rw [List.length_append, List.length_append, hlt, hld1]; simp; omega, fun hm hx => ?_⟩
      obtain ⟨m1, m2⟩ := hm
      have m2' := m2
      rw [hsplit] at m2'
      refine ⟨fun y hy => ?_, ?_⟩
      · rw [List.append_assoc] at hy
        rcases List.mem_append.1 hy with h | h
        · exact m1 y (List.mem_of_mem_take h)
        · rcases List.mem_cons.1 h with h | h
          · rw [h]; exact hx
          · exact m1 y (List.mem_of_mem_drop h)
      · rw [List.append_assoc]
        rw [List.pairwise_append] at m2' ⊢
        obtain ⟨p1, p2, p3⟩ := m2'
        rw [List.pairwise_cons] at p2
        refine ⟨p1, List.pairwise_cons.2 ⟨fun y hy => hc ▸ p2.1 y hy, p2.2⟩, fun a ha y hy => ?_⟩
        rcases List.mem_cons.1 hy with h | h
        · rw [h]; exact hlow a ha
        · exact p3 a ha y (List.mem_cons_of_mem _ h)
    | false =>
      refine ⟨_, rfl, by rw [List.take_append_drop]; omega, fun hm hx => ?_⟩
      rw [List.take_append_drop]
      exact hm
  | false =>
    simp only [cond_false]
    have r3 : room ((l.take (placeN l x.1) ++ [x]).length + (l.drop (placeN l x.1)).length) 48 = true := room_pos (by rw [List.length_append, hlt, hld]; simp; omega)
    rw [r2, e2, ed, r3]
    simp only [cond_true]
    refine ⟨_, rfl, by rw [List.length_append, List.length_append, hlt, hld]; simp; omega, fun hm hx => ?_⟩
    obtain ⟨m1, m2⟩ := hm
    have m2' := m2
    rw [← List.take_append_drop (placeN l x.1) l] at m2'
    have hup : ∀ y ∈ l.drop (placeN l x.1), ltC x.1 y.1 := by
      intro y hy
      have hi : placeN l x.1 < l.length := by
        have := List.length_pos_of_mem hy
        omega
      have h0 : ltC x.1 (l[placeN l x.1]).1 := by
        have e3 := placeN_high l x.1 hi
        rcases cmp_tri (l[placeN l x.1]).1 x.1 with h | h | h
        · rw [cmp_lt.2 h] at e3; cases e3
        · exfalso
          unfold foundB at hf
          rw [iLt_pos (by omega), getD_of hi] at hf
          simp only [cond_true] at hf
          rw [eqC_iff.2 h] at hf
          cases hf
        · exact h
      obtain ⟨i, hi', rfl⟩ := List.getElem_of_mem hy
      rw [List.getElem_drop]
      cases i with
      | zero => simpa using h0
      | succ i =>
        refine h0.trans (List.pairwise_iff_getElem.1 m2 _ _ hi (by omega) (by omega))
    refine ⟨fun y hy => ?_, ?_⟩
    · rw [List.append_assoc] at hy
      rcases List.mem_append.1 hy with h | h
      · exact m1 y (List.mem_of_mem_take h)
      · rcases List.mem_cons.1 h with h | h
        · rw [h]; exact hx
        · exact m1 y (List.mem_of_mem_drop h)
    · rw [List.append_assoc]
      rw [List.pairwise_append] at m2' ⊢
      obtain ⟨p1, p2, p3⟩ := m2'
      refine ⟨p1, List.pairwise_cons.2 ⟨hup, p2⟩, fun a ha y hy => ?_⟩
      rcases List.mem_cons.1 hy with h | h
      · rw [h]; exact hlow a ha
      · exact p3 a ha y h

/-! ### a landmark that is seen -/
theorem cell_fin {side : Nat} {v : Vec 3 Nat} (h : iEq (cellF side v).2.1 0 = true) : finV v = true := by
  unfold cellF at h
  cases hv : finV v with
  | true => rfl
  | false =>
    rw [hv, Bool.and_false] at h
    have h' : iEq (2 : Int) 0 = true := h
    exact absurd h' (by decide)

abbrev DSeen := DMap × (Vec 3 Int) × Bool × Int × Unit
theorem seen_tail {a0 : DMap} (hs : sideB a0.1 = true) {L : List DMark} (hL : Marks L) (hl : L.length ≤ 200) (v : Vec 3 Nat) {w : Nat} (hw : sideB w = true) {n t : Int} (hn : 1 ≤ n) (hn1 : n ≤ 1000000) (ht : timeB t = true) (fl : Bool) :
    ∃ (m' : DMap) (c : Vec 3 Int) (o : Bool) (code : Int), ((spec_l05Cell a0.1 v).bind fun y => bif (! (iEq y.1.2.1 0)) then some ((((0, [], ()) : DMap), ((0, 0, 0, ()) : Vec 3 Int), false, (3 : Int), ()), (a0, ())) else
      (spec_l05Put L ((y.1.1, v, w, n, t, ()) : DMark)).bind fun z => (spec_l05Told a0.1 z.1.1).bind fun u => some ((u.1.1, y.1.1, fl, u.1.2.1, ()), (a0, ()))) = some (((m', c, o, code, ()) : DSeen), (a0, ())) ∧ (code = 0 → mapB m' = true ∧ m'.1 = a0.1) := by
  rw [spec_l05Cell_ok]
  simp only [Option.bind_some]
  cases hc : iEq (cellF a0.1 v).2.1 0 with
  | false => exact ⟨_, _, _, _, rfl, fun h => absurd h (by decide)⟩
  | true =>
    simp only [Bool.not_true, cond_false]
    obtain ⟨l', h1, h2, h3⟩ := put_ok (l := L) (by omega) (((cellF a0.1 v).1, v, w, n, t, ()) : DMark)
    rw [h1]
    simp only [Option.bind_some]
    unfold spec_l05Told
    by_cases hlt : 200 < l'.length
    · rw [iLt_pos (by rw [lenI_eq]; omega)]
      exact ⟨_, _, _, _, rfl, fun h => absurd h (by decide)⟩
    · rw [iLt_neg (by rw [lenI_eq]; omega)]
      refine ⟨_, _, _, _, rfl, fun _ => ⟨mapB_iff.2 ⟨hs, (show l'.length ≤ 200 by omega), h3 hL ?_⟩, rfl⟩⟩
      unfold markB
      simp only [Bool.and_eq_true, iLe_true]
      exact ⟨cell_fin hc, hw, ⟨hn, hn1⟩, ht⟩

theorem spec_l05Beside_ok (a b : Vec 3 Int) : ∃ v, spec_l05Beside a b = some ((v, ()), ()) := by
  unfold spec_l05Beside
  generalize iSub .i64 (iWrap .i64 (Vec.getD 3 a 0 (0 : Int))) (iWrap .i64 (Vec.getD 3 b 0 (0 : Int))) = c0
  generalize iSub .i64 (iWrap .i64 (Vec.getD 3 a 1 (0 : Int))) (iWrap .i64 (Vec.getD 3 b 1 (0 : Int))) = c1
  generalize iSub .i64 (iWrap .i64 (Vec.getD 3 a 2 (0 : Int))) (iWrap .i64 (Vec.getD 3 b 2 (0 : Int))) = c2
  simp only
  cases iLt 1 c0 <;> cases iLt c0 (-1) <;> cases iLt 1 c1 <;> cases iLt c1 (-1) <;> cases iLt 1 c2 <;> cases iLt c2 (-1) <;> exact ⟨_, rfl⟩

theorem nearest_ok {m : DMap} (hl : m.2.1.length ≤ 1000) (v : Vec 3 Nat) (g : Nat) : ∃ at' code : Int, spec_l05Nearest m v g = some ((at', code, ()), ()) ∧ (at' = -1 ∨ (0 ≤ at' ∧ at' < m.2.1.length)) := by
  unfold spec_l05Nearest
  rw [spec_l05Cell_ok]
  simp only [Option.bind_some]
  cases iEq (cellF m.1 v).2.1 2 with
  | true => exact ⟨_, _, rfl, .inl rfl⟩
  | false =>
    cases fLe .f32 0 g with
    | false => exact ⟨_, _, rfl, .inl rfl⟩
    | true =>
      cases iEq (cellF m.1 v).2.1 0 with
      | false => exact ⟨_, _, rfl, .inl rfl⟩
      | true =>
        simp only [Bool.not_true, cond_false]
        have r := run_inv (f := spec_l05Nearest_l9 m (cellF m.1 v, ()) v g) (fun s => ∃ (b : Int) (d : Nat) (i : Nat), s = (b, d, (i : Int), ()) ∧ i ≤ m.2.1.length ∧ (b = -1 ∨ (0 ≤ b ∧ b < m.2.1.length))) (fun s => (m.2.1.length - s.2.2.1).toNat)
          (fun a => ∃ b : Int, a = ((b, 0, ()), ()) ∧ (b = -1 ∨ (0 ≤ b ∧ b < m.2.1.length))) (fun s hI => by
          obtain ⟨b, d, i, rfl, hi, hb⟩ := hI
          by_cases hlt : i < m.2.1.length
          · left
            have e1 : iLt (i : Int) (lenI m.2.1) = true := iLt_pos (by rw [lenI_eq]; omega)
            have e2 : inB (i : Int) m.2.1.length = true := inB_pos hlt
            have e5 : iAdd .i64 (i : Int) 1 = ((i + 1 : Nat) : Int) := iAdd_one hlt (by omega)
            have hm : ((m.2.1.length : Int) - ((i + 1 : Nat) : Int)).toNat < ((m.2.1.length : Int) - (i : Int)).toNat := by omega
            obtain ⟨q, hq⟩ := spec_l05Beside_ok (m.2.1.getD i zMark).1 (cellF m.1 v).1
            have hq' : spec_l05Beside ((List.getD m.2.1 (Int.toNat (i : Int)) (((0, 0, 0, ()), (0, 0, 0, ()), 0, 0, 0, ()) : DMark)).1) (cellF m.1 v).1 = some ((q, ()), ()) := hq
            unfold spec_l05Nearest_l9
            simp only
            rw [e1, e2, hq', e5]
            simp only [cond_true, Option.bind_some]
            cases q with
            | false => exact ⟨_, rfl, ⟨b, d, i + 1, rfl, by omega, hb⟩, hm⟩
            | true =>
              obtain ⟨x, hx⟩ : ∃ x, spec_l05Away (List.getD m.2.1 (Int.toNat (i : Int)) (((0, 0, 0, ()), (0, 0, 0, ()), 0, 0, 0, ()) : DMark)) v = some ((x, ()), ()) := by
                simp only [spec_l05Away, spec_l01Dot, spec_l01Root_ok, Option.bind_some]
                exact ⟨_, rfl⟩
              rw [hx]
              simp only [Bool.not_true, cond_false, Option.bind_some]
              cases fLe .f32 x g with
              | false => exact ⟨_, rfl, ⟨b, d, i + 1, rfl, by omega, hb⟩, hm⟩
              | true =>
                cases iLt b 0 with
                | true => exact ⟨_, rfl, ⟨(i : Int), x, i + 1, rfl, by omega, .inr ⟨by omega, by omega⟩⟩, hm⟩
                | false =>
                  cases fLt .f32 x d with
                  | true => exact ⟨_, rfl, ⟨(i : Int), x, i + 1, rfl, by omega, .inr ⟨by omega, by omega⟩⟩, hm⟩
                  | false => exact ⟨_, rfl, ⟨b, d, i + 1, rfl, by omega, hb⟩, hm⟩
          · right
            have e1 : iLt (i : Int) (lenI m.2.1) = false := iLt_neg (by rw [lenI_eq]; omega)
            refine ⟨((b, 0, ()), ()), ?_, b, rfl, hb⟩
            unfold spec_l05Nearest_l9
            simp only
            rw [e1]
            rfl) (s := ((-1 : Int), (0 : Nat), (0 : Int), ())) ⟨-1, 0, 0, rfl, Nat.zero_le _, .inl rfl⟩
        obtain ⟨a, ha, b, rfl, hb⟩ := r
        exact ⟨b, 0, ha, hb⟩

theorem spec_l00Min_ok (a b : Int) : spec_l00Min a b = some ((min a b, ()), ()) := by
  unfold spec_l00Min
  by_cases h : a < b
  · rw [iLt_pos h]; simp only [cond_true]; rw [Int.min_def, if_pos (by omega)]
  · rw [iLt_neg h]; simp only [cond_false]; rw [Int.min_def]; split
    · rename_i h1; have : a = b := by omega
      rw [this]
    · rfl

theorem see_ok {m : DMap} (hm : mapB m = true) (v : Vec 3 Nat) (w : Nat) (t : Int) (g : Nat) :
    ∃ (m' : DMap) (c : Vec 3 Int) (o : Bool) (code : Int), spec_l05See m v w t g = some (((m', c, o, code, ()) : DSeen), (m, ())) ∧ (code = 0 → mapB m' = true ∧ m'.1 = m.1) := by
  obtain ⟨hs, hl, hM⟩ := mapB_iff.1 hm
  obtain ⟨b, code, hn, hb⟩ := nearest_ok (m := m) (by omega) v g
  unfold spec_l05See
  simp only [spec_l01Finite_ok, spec_l04Time_ok, hn, Option.bind_some]
  cases hw : finB w with
  | false => exact ⟨_, _, _, _, rfl, fun h => absurd h (by decide)⟩
  | true =>
    cases hw0 : fLt .f32 0 w with
    | false => exact ⟨_, _, _, _, rfl, fun h => absurd h (by decide)⟩
    | true =>
      cases ht : timeB t with
      | false => exact ⟨_, _, _, _, rfl, fun h => absurd h (by decide)⟩
      | true =>
        cases hc : iEq code 0 with
        | false => exact ⟨_, _, _, _, rfl, fun h => absurd h (by simpa [iEq] using hc)⟩
        | true =>
          have r0 : room (0 + m.2.1.length) 48 = true := room_pos (by omega)
          have hsw : sideB w = true := by unfold sideB; rw [hw, hw0]; rfl
          rw [r0]
          simp only [Bool.not_true, cond_false, cond_true]
          rcases hb with rfl | ⟨b0, b1⟩
          · have e0 : iLe 0 (-1 : Int) = false := by decide
            rw [e0]
            simp only [cond_false, List.nil_append]
            exact seen_tail hs hM hl v hsw (by omega) (by omega) ht false
          · obtain ⟨k, rfl⟩ := Int.eq_ofNat_of_zero_le b0
            have hk : k < m.2.1.length := by omega
            have e0 : iLe 0 (k : Int) = true := iLe_pos (by omega)
            have e1 : inB (k : Int) m.2.1.length = true := inB_pos hk
            have e2 : inS 0 (k : Int) m.2.1.length = true := by unfold inS; simp; omega
            have e5 : iAdd .i64 (k : Int) 1 = ((k + 1 : Nat) : Int) := (iAdd_eq (by omega) (by omega)).trans (by omega)
            have e6 : inS ((k + 1 : Nat) : Int) (lenI m.2.1) m.2.1.length = true := by unfold inS; rw [lenI_eq]; simp; omega
            have t1 : takeL m.2.1 (k : Int) = m.2.1.take k := by unfold takeL; rw [Int.toNat_natCast]
            have t2 : dropL m.2.1 ((k + 1 : Nat) : Int) = m.2.1.drop (k + 1) := by unfold dropL; rw [Int.toNat_natCast]
            have l1 : (m.2.1.take k).length = k := by rw [List.length_take]; omega
            have l2 : (m.2.1.drop (k + 1)).length = m.2.1.length - (k + 1) := List.length_drop
            have r1 : room (0 + (m.2.1.take k).length) 48 = true := room_pos (by omega)
            have r2 : room ((m.2.1.take k).length + (m.2.1.drop (k + 1)).length) 48 = true := room_pos (by omega)
            rw [e0, e1, e2, t1, r1, e5, e6, t2]
            simp only [cond_true, List.nil_append]
            rw [r2]
            simp only [cond_true]
            have hsub : (m.2.1.take k ++ m.2.1.drop (k + 1)).Sublist m.2.1 := by
              have h1 : (m.2.1.take k ++ m.2.1.drop (k + 1)).Sublist (m.2.1.take k ++ m.2.1.drop k) := List.Sublist.append (List.Sublist.refl _) (by
                rw [← List.getElem_cons_drop (h := hk)]
                exact List.sublist_cons_self _ _)
              rwa [List.take_append_drop] at h1
            have hM' : Marks (m.2.1.take k ++ m.2.1.drop (k + 1)) := ⟨fun x hx => hM.1 x (hsub.mem hx), hM.2.sublist hsub⟩
            have hl' : (m.2.1.take k ++ m.2.1.drop (k + 1)).length ≤ 200 := Nat.le_trans hsub.length_le hl
            have hold := hM.1 _ (List.getElem_mem hk)
            have hgd : List.getD m.2.1 (Int.toNat (k : Int)) (((0, 0, 0, ()), (0, 0, 0, ()), 0, 0, 0, ()) : DMark) = m.2.1[k] := by
              rw [Int.toNat_natCast]; exact getD_of hk
            rw [hgd]
            generalize m.2.1[k] = x at hold
            unfold markB at hold
            simp only [Bool.and_eq_true, iLe_true] at hold
            obtain ⟨x1, x2, ⟨x3, x4⟩, x5⟩ := hold
            have hseen : iAdd .i64 x.2.2.2.1 1 = x.2.2.2.1 + 1 := iAdd_eq (by omega) (by omega)
            have hmn : 1 ≤ min (x.2.2.2.1 + 1) 1000000 ∧ min (x.2.2.2.1 + 1) 1000000 ≤ 1000000 := by omega
            have hmx : timeB (max x.2.2.2.2.1 t) = true := by
              unfold timeB at ht x5 ⊢
              simp only [Bool.and_eq_true, iLe_true] at ht x5 ⊢
              omega
            simp only [spec_l00Min_ok, l00Max_ok, Option.bind_some, hseen]
            cases hf : finB (fAdd .f32 x.2.2.1 w) with
            | false => exact seen_tail hs hM' hl' _ x2 hmn.1 hmn.2 hmx true
            | true =>
              have hx2 := x2
              unfold sideB at hx2
              rw [Bool.and_eq_true] at hx2
              have hsum : sideB (fAdd .f32 x.2.2.1 w) = true := by
                unfold sideB
                rw [hf, add_positive hx2.1 hx2.2 hw hw0 hf]
                rfl
              exact seen_tail hs hM' hl' _ hsum hmn.1 hmn.2 hmx true

/-! ### a map that is drawn -/
theorem drawnMap_ok {s : DSrc} (hs : SrcOK 0 s) {side : Nat} (hside : sideB side = true) : ∃ (m : DMap) (s' : DSrc), spec_l05Drawn s side = some ((m, ()), (s', ())) ∧ mapB m = true ∧ m.1 = side := by
  obtain ⟨k, s1, h1, k0, _, k1, hs1⟩ := spec_pick_ok (n := 0) (by omega) hs 9 (by omega)
  have k1 := k1 (by omega)
  unfold spec_l05Drawn
  rw [h1]
  simp only [Option.bind_some]
  have r := run_inv (f := spec_l05Drawn_l3) (fun z => ∃ (i : Nat) (s : DSrc) (m : DMap), z = ((i : Int), s, m, ()) ∧ i ≤ 9 ∧ SrcOK (2 + 12 * (9 - i)) s ∧ mapB m = true ∧ m.1 = side) (fun z => z.1.toNat)
    (fun a => ∃ (m : DMap) (s' : DSrc), a = ((m, ()), (s', ())) ∧ mapB m = true ∧ m.1 = side) (fun z hI => by
    obtain ⟨i, s, m, rfl, hi, hsr, hm, hms⟩ := hI
    unfold spec_l05Drawn_l3
    simp only
    cases i with
    | zero =>
      right
      exact ⟨_, rfl, m, s, rfl, hm, hms⟩
    | succ i =>
      left
      obtain ⟨v1, s1, e1, _, _, _, q1⟩ := spec_pick_ok (n := 2 + 12 * (9 - ((i + 1 : Nat) : Int))) (by omega) hsr 33 (by omega)
      obtain ⟨v2, s2, e2, _, _, _, q2⟩ := spec_pick_ok (by omega) q1 9 (by omega)
      obtain ⟨v3, s3, e3, _, _, _, q3⟩ := spec_pick_ok (by omega) q2 5 (by omega)
      obtain ⟨v4, s4, e4, _, _, _, q4⟩ := spec_pick_ok (by omega) q3 8 (by omega)
      obtain ⟨v5, s5, e5, _, _, _, q5⟩ := spec_pick_ok (by omega) q4 9 (by omega)
      obtain ⟨v6, s6, e6, _, _, _, q6⟩ := spec_pick_ok (by omega) q5 20 (by omega)
      have e0 : iLt 0 ((i + 1 : Nat) : Int) = true := iLt_pos (by omega)
      have e7 : iSub .i64 ((i + 1 : Nat) : Int) 1 = (i : Int) := (iSub_eq (by omega) (by omega)).trans (by omega)
      rw [e0]
      simp only [cond_true, e1, e2, e3, e4, e5, e6, Option.bind_some]
      obtain ⟨m', c, o, code, h2, h3⟩ := see_ok hm (((fDiv .f32 (fOfInt .f32 (iSub .i64 v1 16)) 1082130432), (fDiv .f32 (fOfInt .f32 (iSub .i64 v2 4)) 1082130432), (fDiv .f32 (fOfInt .f32 (iSub .i64 v3 2)) 1073741824), ()) : Vec 3 Nat) (fDiv .f32 (fOfInt .f32 (iAdd .i64 1 v4)) 1082130432) v6 (fDiv .f32 (fOfInt .f32 v5) 1090519040)
      rw [h2, e7]
      simp only [Option.bind_some]
      have q : SrcOK (2 + 12 * (9 - (i : Int))) s6 := q6.mono (by omega)
      have hmu : ((i : Int)).toNat < (((i + 1 : Nat) : Int)).toNat := by omega
      cases hc : iEq code 0 with
      | true =>
        have hc0 : code = 0 := by simpa [iEq] using hc
        exact ⟨_, rfl, ⟨i, s6, m', rfl, by omega, q, (h3 hc0).1, (h3 hc0).2.trans hms⟩, hmu⟩
      | false => exact ⟨_, rfl, ⟨i, s6, m, rfl, by omega, q, hm, hms⟩, hmu⟩) (s := (k, s1, ((side, [], ()) : DMap), ())) (by
        obtain ⟨n, rfl⟩ := Int.eq_ofNat_of_zero_le k0
        refine ⟨n, s1, _, rfl, by omega, hs1.mono (by omega), ?_, rfl⟩
        exact mapB_iff.2 ⟨hside, Nat.zero_le _, ⟨fun x hx => (by cases hx), List.Pairwise.nil⟩⟩)
  obtain ⟨a, ha, m, s', rfl, hm, hms⟩ := r
  exact ⟨m, s', ha, hm, hms⟩

theorem p6Map_ok {l : List Int} (h : Fit (.list (.int .u8)) l) (hl : l.length ≤ 4096) {side : Nat} (hside : sideB side = true) : ∃ m : DMap, spec_P6Map l side = some ((m, ()), ()) ∧ mapB m = true := by
  obtain ⟨m, s', h1, h2, _⟩ := drawnMap_ok (src_from (bytes_fit h) hl) hside
  refine ⟨m, ?_, h2⟩
  obtain ⟨m1, m2, ⟨⟩⟩ := m
  simp only [spec_P6Map, spec_l00From_ok, h1, Option.bind_some]
end Go.Proofs.YtdmaamakckochaaGreatDoor
