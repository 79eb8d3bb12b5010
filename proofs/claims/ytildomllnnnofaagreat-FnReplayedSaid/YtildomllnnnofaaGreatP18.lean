import Derived.Test.YtildomllnnnofaaGreatP17
/- Functions of the program and of the reference in plain terms. -/
namespace Go.Proofs.YtildomllnnnofaaGreat
open Go Go.Tm
set_option linter.unusedVariables false
set_option linter.unusedSimpArgs false
set_option linter.unusedSectionVars false
theorem qmz {α : Type} {z : α} : ∀ (n : Nat) (v : Vec n α) (i j : Nat) (x : α), i < n → Vec.getD n (Vec.set n v i x) j z = if j = i then x else Vec.getD n v j z
  | 0, _, _, _, _, h => absurd h (Nat.not_lt_zero _)
  | _ + 1, _, 0, 0, _, _ => rfl
  | _ + 1, _, 0, _ + 1, _, _ => rfl
  | _ + 1, _, _ + 1, 0, _, _ => rfl
  | n + 1, v, i + 1, j + 1, x, h => by
    have := qmz (z := z) n v.2 i j x (Nat.lt_of_succ_lt_succ h)
    show Vec.getD n (Vec.set n v.2 i x) j z = _
    rw [this]
    by_cases e : j = i
    · rw [if_pos e, if_pos (congrArg (· + 1) e)]
    · rw [if_neg e, if_neg (fun q => e (Nat.succ.inj q))]; rfl
abbrev DTab := Vec 6 (Vec 9 Nat)
abbrev DRoot := Vec 6 (Vec 6 Nat)
abbrev r9 : Vec 9 Nat := (0, 0, 0, 0, 0, 0, 0, 0, 0, ())
abbrev r6 : Vec 6 Nat := (0, 0, 0, 0, 0, 0, ())
abbrev z6 : DRoot := ((0, 0, 0, 0, 0, 0, ()), (0, 0, 0, 0, 0, 0, ()), (0, 0, 0, 0, 0, 0, ()), (0, 0, 0, 0, 0, 0, ()), (0, 0, 0, 0, 0, 0, ()), (0, 0, 0, 0, 0, 0, ()), ())
def tg (T : DTab) (r k : Nat) : Nat := Vec.getD 9 (Vec.getD 6 T r r9) k (0 : Nat)
theorem qaba {T : DTab} {r : Nat} (hr : r < 6) (row : Vec 9 Nat) (r' k : Nat) : tg (Vec.set 6 T r row) r' k = if r' = r then Vec.getD 9 row k (0 : Nat) else tg T r' k := by
  unfold tg
  rw [qmz 6 T r r' row hr]
  by_cases h : r' = r
  · rw [if_pos h, if_pos h]
  · rw [if_neg h, if_neg h]
theorem qil {T : DTab} {r c : Nat} (hr : r < 6) (hc : c < 9) (x : Nat) (r' k : Nat) : tg (Vec.set 6 T r (Vec.set 9 (Vec.getD 6 T r r9) c x)) r' k = if r' = r ∧ k = c then x else tg T r' k := by
  rw [qaba hr, qmz 9 _ c k x hc]
  by_cases h : r' = r
  · by_cases h1 : k = c
    · rw [if_pos h, if_pos h1, if_pos ⟨h, h1⟩]
    · rw [if_pos h, if_neg h1, if_neg (fun q => h1 q.2), h]; rfl
  · rw [if_neg h, if_neg (fun q => h q.1)]
def Seen (i : Nat) (T : DTab) (P : Nat → Nat → Prop) : Prop := ∃ r k, r < 6 ∧ k < 9 ∧ finB (tg T r k) = false ∧ ((k < i ∧ k ≤ r) ∨ (i ≤ r ∧ i ≤ k)) ∧ P r k
theorem qwv {i c r : Nat} {T : DTab} {x y : Nat} (hi : i < c) (hc : c < 9) (hr : r < 6) (hir : i ≤ r) {a b : Nat} (ha : a = fAdd .f32 (fMul .f32 x (tg T r i)) (fMul .f32 y (tg T r c)))
    (h : Seen i T fun r' k => ¬ (k = c ∧ r' < r)) : Seen i (Vec.set 6 (Vec.set 6 T r (Vec.set 9 (Vec.getD 6 T r r9) i a)) r (Vec.set 9 (Vec.getD 6 (Vec.set 6 T r (Vec.set 9 (Vec.getD 6 T r r9) i a)) r r9) c b)) fun r' k => ¬ (k = c ∧ r' < r + 1) := by
  obtain ⟨r', k, h1, h2, h3, h4, h5⟩ := h
  have key : ∀ (r' k : Nat), tg (Vec.set 6 (Vec.set 6 T r (Vec.set 9 (Vec.getD 6 T r r9) i a)) r (Vec.set 9 (Vec.getD 6 (Vec.set 6 T r (Vec.set 9 (Vec.getD 6 T r r9) i a)) r r9) c b)) r' k = if r' = r ∧ k = c then b else if r' = r ∧ k = i then a else tg T r' k := fun r' k => by
    rw [qil hr hc, qil hr (by omega)]
  by_cases hm : r' = r ∧ (k = i ∨ k = c)
  · refine ⟨r, i, hr, by omega, ?_, .inr ⟨hir, Nat.le_refl _⟩, fun q => by omega⟩
    rw [key, if_neg (by omega), if_pos ⟨rfl, rfl⟩, ha]
    obtain ⟨rfl, hk⟩ := hm
    cases hf : finB (fAdd .f32 (fMul .f32 x (tg T r' i)) (fMul .f32 y (tg T r' c))) with
    | false => rfl
    | true =>
      obtain ⟨f1, f2⟩ := qzj hf
      rcases hk with rfl | rfl
      · exact absurd (qtz f1).2 (by rw [h3]; decide)
      · exact absurd (qtz f2).2 (by rw [h3]; decide)
  · refine ⟨r', k, h1, h2, ?_, h4, fun q => ?_⟩
    · rw [key, if_neg (fun q => hm ⟨q.1, .inr q.2⟩), if_neg (fun q => hm ⟨q.1, .inl q.2⟩)]; exact h3
    · by_cases e : r' = r
      · exact hm ⟨e, .inr q.1⟩
      · exact h5 ⟨q.1, by omega⟩
theorem qaae {i c : Nat} (hi : i < c) (hi6 : i < 6) (hc : c < 9) (x y : Nat) (B : Prop) (T0 : DTab) {T : DTab} (h : B → Seen i T fun _ _ => True) (hz : ∀ k, i < k → k < c → finB (tg T i k) = true) :
    ∃ T' : DTab, run (impl_LowerOf_l21 ((i : Int), T0, ()) ((c : Int), T, ()) x y) ((i : Int), T, ()) = some (.inl (((c + 1 : Nat) : Int), T', ())) ∧ (B → Seen i T' fun _ _ => True) ∧ ∀ k, i < k → k < c + 1 → finB (tg T' i k) = true := by
  have he : ∃ o, run (impl_LowerOf_l21 ((i : Int), T0, ()) ((c : Int), T, ()) x y) ((i : Int), T, ()) = some o ∧ ∃ T' : DTab, o = .inl (((c + 1 : Nat) : Int), T', ()) ∧ (B → Seen i T' fun _ _ => True) ∧ ∀ k, i < k → k < c + 1 → finB (tg T' i k) = true := by
    refine qfi (fun s => ∃ (r : Nat) (U : DTab), s = ((r : Int), U, ()) ∧ i ≤ r ∧ r ≤ 6 ∧ (B → Seen i U fun r' k => ¬ (k = c ∧ r' < r)) ∧ ∀ k, i < k → k < c → finB (tg U i k) = true) (fun s => (6 - s.1).toNat) _ (fun s hs => ?_) ⟨i, T, rfl, Nat.le_refl _, by omega, fun b => ?_, hz⟩
    · obtain ⟨r, U, rfl, hir, hr, hb, hU⟩ := hs
      by_cases h6 : r < 6
      · have e1 : iLt (r : Int) 6 = true := qah (by omega)
        have e2 : inB (r : Int) 6 = true := qaf h6
        have e3 : inB (i : Int) 9 = true := qaf (by omega)
        have e4 : inB (c : Int) 9 = true := qaf hc
        have e5 : iAdd .i64 (r : Int) 1 = ((r + 1 : Nat) : Int) := qap h6 (by omega)
        refine .inl ⟨_, by simp only [impl_LowerOf_l21, e1, e2, e3, e4, e5, cond_true, Int.toNat_natCast]; rfl, ⟨r + 1, _, rfl, by omega, by omega, fun b => ?_, fun k k1 k2 => ?_⟩, by show (6 - ((r + 1 : Nat) : Int)).toNat < (6 - (r : Int)).toNat; omega⟩
        · exact qwv hi hc h6 hir rfl (hb b)
        · rw [qil h6 hc, qil h6 (by omega), if_neg (by omega), if_neg (by omega)]
          exact hU k k1 k2
      · have e1 : iLt (r : Int) 6 = false := qag (by omega)
        have e2 : inB (i : Int) 6 = true := qaf hi6
        have e4 : inB (c : Int) 9 = true := qaf hc
        have e5 : iAdd .i64 (c : Int) 1 = ((c + 1 : Nat) : Int) := qap hc (by omega)
        refine .inr ⟨_, by simp only [impl_LowerOf_l21, e1, e2, e4, e5, cond_true, cond_false, Int.toNat_natCast, Option.map_some]; rfl, _, rfl, fun b => ?_, fun k k1 k2 => ?_⟩
        · obtain ⟨r', k, h1, h2, h3, h4, h5⟩ := hb b
          refine ⟨r', k, h1, h2, ?_, h4, trivial⟩
          rw [qil hi6 hc, if_neg (by omega)]
          exact h3
        · rw [qil hi6 hc]
          by_cases e : k = c
          · rw [if_pos ⟨rfl, e⟩]; exact qha
          · rw [if_neg (fun q => e q.2)]; exact hU k k1 (by omega)
    · obtain ⟨r', k, h1, h2, h3, h4, _⟩ := h b
      exact ⟨r', k, h1, h2, h3, h4, by omega⟩
  obtain ⟨o, ho, T', rfl, h2, h3⟩ := he
  exact ⟨T', ho, h2, h3⟩
theorem qabc {i : Nat} (hi : i < 6) (B : Prop) {T : DTab} (h : B → Seen i T fun _ _ => True) :
    ∃ o, run (impl_LowerOf_l11 ((i : Int), T, ())) (((i + 1 : Nat) : Int), T, ()) = some o ∧ ((∃ T' : DTab, o = .inl (((i + 1 : Nat) : Int), T', ()) ∧ (B → Seen (i + 1) T' fun _ _ => True)) ∨ o = .inr ((z6, 4, ()), ())) := by
  refine qfi (fun s => ∃ (c : Nat) (U : DTab), s = ((c : Int), U, ()) ∧ i < c ∧ c ≤ 9 ∧ (B → Seen i U fun _ _ => True) ∧ ∀ k, i < k → k < c → finB (tg U i k) = true) (fun s => (9 - s.1).toNat) _ (fun s hs => ?_) ⟨i + 1, T, rfl, by omega, by omega, h, fun k k1 k2 => by omega⟩
  obtain ⟨c, U, rfl, hic, hc, hb, hU⟩ := hs
  by_cases h9 : c < 9
  · have e1 : iLt (c : Int) 9 = true := qah (by omega)
    have e2 : inB (i : Int) 6 = true := qaf hi
    have e3 : inB (i : Int) 9 = true := qaf (by omega)
    have e4 : inB (c : Int) 9 = true := qaf h9
    have e5 : iAdd .i64 (c : Int) 1 = ((c + 1 : Nat) : Int) := qap h9 (by omega)
    have e0 : impl_LowerOf_l11 ((i : Int), T, ()) ((c : Int), U, ()) = bif fEq .f32 (tg U i c) 0 then some (.inl (((c + 1 : Nat) : Int), U, ())) else
        bif fEq .f32 (rootF (fAdd .f32 (fMul .f32 (tg U i i) (tg U i i)) (fMul .f32 (tg U i c) (tg U i c)))) 0 then some (.inr (.inr ((z6, 4, ()), ()))) else
        run (impl_LowerOf_l21 ((i : Int), T, ()) ((c : Int), U, ()) (fDiv .f32 (tg U i i) (rootF (fAdd .f32 (fMul .f32 (tg U i i) (tg U i i)) (fMul .f32 (tg U i c) (tg U i c))))) (fDiv .f32 (tg U i c) (rootF (fAdd .f32 (fMul .f32 (tg U i i) (tg U i i)) (fMul .f32 (tg U i c) (tg U i c)))))) ((i : Int), U, ()) := by
      simp only [impl_LowerOf_l11, e1, e2, e3, e4, e5, cond_true, Int.toNat_natCast, qez, Option.bind_some, Option.map_some]
      rfl
    rw [e0]
    cases hz : fEq .f32 (tg U i c) 0 with
    | true =>
      refine .inl ⟨_, rfl, ⟨c + 1, U, rfl, by omega, by omega, hb, fun k k1 k2 => ?_⟩, by show (9 - ((c + 1 : Nat) : Int)).toNat < (9 - (c : Int)).toNat; omega⟩
      by_cases e : k = c
      · rw [e]; exact qz5 hz
      · exact hU k k1 (by omega)
    | false =>
      simp only [cond_false]
      cases hr : fEq .f32 (rootF (fAdd .f32 (fMul .f32 (tg U i i) (tg U i i)) (fMul .f32 (tg U i c) (tg U i c)))) 0 with
      | true => exact .inr ⟨_, rfl, .inr rfl⟩
      | false =>
        simp only [cond_false]
        obtain ⟨U', h1, h2, h3⟩ := qaae hic hi h9 (fDiv .f32 (tg U i i) (rootF (fAdd .f32 (fMul .f32 (tg U i i) (tg U i i)) (fMul .f32 (tg U i c) (tg U i c))))) (fDiv .f32 (tg U i c) (rootF (fAdd .f32 (fMul .f32 (tg U i i) (tg U i i)) (fMul .f32 (tg U i c) (tg U i c))))) B T hb hU
        exact .inl ⟨_, h1, ⟨c + 1, U', rfl, by omega, by omega, h2, h3⟩, by show (9 - ((c + 1 : Nat) : Int)).toNat < (9 - (c : Int)).toNat; omega⟩
  · have e1 : iLt (c : Int) 9 = false := qag (by omega)
    have e5 : iAdd .i64 (i : Int) 1 = ((i + 1 : Nat) : Int) := qap (n := 6) hi (by omega)
    refine .inr ⟨_, by simp only [impl_LowerOf_l11, e1, e5, cond_false, Option.map_some], .inl ⟨U, rfl, fun b => ?_⟩⟩
    obtain ⟨r, k, h1, h2, h3, h4, _⟩ := hb b
    refine ⟨r, k, h1, h2, h3, ?_, trivial⟩
    by_cases e : i < k ∧ r = i
    · exact absurd (hU k e.1 (by omega)) (by rw [← e.2, h3]; exact Bool.false_ne_true)
    · omega
end Go.Proofs.YtildomllnnnofaaGreat
