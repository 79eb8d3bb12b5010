/- The typed machine and its soundness: what an evaluation on typed data says of the model's run. -/
import Derived.Test.YtnndahnmlmgenaaGreatA2
import Derived.LoopN
import Derived.Laws.Externs
import Derived.ChangeArms
import Derived.ChangeOld
import Derived.OpenShut
import Derived.WideShapes
import Derived.SizedLaws
import Derived.WideKeyArgs
import Derived.ProofKit
set_option linter.unusedVariables false
set_option linter.unusedSimpArgs false
set_option linter.unusedSectionVars false
namespace Go.Tm
open Go

section
variable {P : Program} {F : Fr} {ι' : Nat → Inf} {K' : Nat → Prop} {H' : Heap} {w : World} {T : Nat → Prop} {tm : Tmps} {av : Nat → Value}

theorem putLoop_next : ∀ (l : Ann) (σ : lden l) (s : St), s.next ≤ (putLoop l σ s).next
  | [], _, _ => Nat.le_refl _
  | (d, .sc t) :: r, σ, s => putLoop_next r σ.2 { s with tmps := setT s.tmps d (.val t σ.1) }
  | (d, .rows t) :: r, σ, s => Nat.le_trans (Nat.le_succ _) (putLoop_next r σ.2 { s with tmps := setT s.tmps d (.rows s.next t), heap := (s.next, some (.row t σ.1)) :: s.heap, next := s.next + 1 })
  | (d, .mrows t) :: r, σ, s => by
    simp only [putLoop]
    split
    · rename_i b _ _
      exact putLoop_next r σ.2 { s with heap := (b, some (.row t σ.1)) :: s.heap }
    · exact putLoop_next r σ.2 s
  | (d, .box sh) :: r, σ, s => by
    simp only [putLoop]
    split
    · rename_i b _ _
      exact Nat.le_trans (putSh_le sh σ.1 s.next) (putLoop_next r σ.2 { s with heap := (b, some (.box sh.ty (putSh sh σ.1 s.next).1)) :: (putSh sh σ.1 s.next).2.1 ++ s.heap, next := (putSh sh σ.1 s.next).2.2 })
    · exact putLoop_next r σ.2 s
theorem putLoop_length : ∀ (l : Ann) (σ : lden l) (s : St), (putLoop l σ s).tmps.length = s.tmps.length
  | [], _, _ => rfl
  | (d, .sc t) :: r, σ, s => (putLoop_length r σ.2 { s with tmps := setT s.tmps d (.val t σ.1) }).trans (setT_length _ _ _)
  | (d, .rows t) :: r, σ, s => (putLoop_length r σ.2 { s with tmps := setT s.tmps d (.rows s.next t), heap := (s.next, some (.row t σ.1)) :: s.heap, next := s.next + 1 }).trans (setT_length _ _ _)
  | (d, .mrows t) :: r, σ, s => by
    simp only [putLoop]
    split
    · rename_i b _ _
      exact putLoop_length r σ.2 { s with heap := (b, some (.row t σ.1)) :: s.heap }
    · exact putLoop_length r σ.2 s
  | (d, .box sh) :: r, σ, s => by
    simp only [putLoop]
    split
    · rename_i b _ _
      exact putLoop_length r σ.2 { s with heap := (b, some (.box sh.ty (putSh sh σ.1 s.next).1)) :: (putSh sh σ.1 s.next).2.1 ++ s.heap, next := (putSh sh σ.1 s.next).2.2 }
    · exact putLoop_length r σ.2 s
theorem putLoop_dirty : ∀ (l : Ann) (σ : lden l) (s : St), (putLoop l σ s).dirty = s.dirty
  | [], _, _ => rfl
  | (d, .sc t) :: r, σ, s => putLoop_dirty r σ.2 { s with tmps := setT s.tmps d (.val t σ.1) }
  | (d, .rows t) :: r, σ, s => putLoop_dirty r σ.2 { s with tmps := setT s.tmps d (.rows s.next t), heap := (s.next, some (.row t σ.1)) :: s.heap, next := s.next + 1 }
  | (d, .mrows t) :: r, σ, s => by
    simp only [putLoop]
    split
    · rename_i b _ _
      exact putLoop_dirty r σ.2 { s with heap := (b, some (.row t σ.1)) :: s.heap }
    · exact putLoop_dirty r σ.2 s
  | (d, .box sh) :: r, σ, s => by
    simp only [putLoop]
    split
    · rename_i b _ _
      exact putLoop_dirty r σ.2 { s with heap := (b, some (.box sh.ty (putSh sh σ.1 s.next).1)) :: (putSh sh σ.1 s.next).2.1 ++ s.heap, next := (putSh sh σ.1 s.next).2.2 }
    · exact putLoop_dirty r σ.2 s

theorem getT_none {l : Tmps} {d : Nat} (h : ¬ d < l.length) : getT l d = .undef := by
  unfold getT
  rw [ble_succ, show decide (d < l.n) = false from by simpa [Tmps.length] using h]
  rfl
theorem tl_live : ∀ {l : Ann} {σ : lden l} {ks xs O fz : List Nat} {ι : Nat → Inf} {K : Nat → Prop} {H : Heap}, TL P F ι K H w l σ tm av ks xs O fz → ∀ b ∈ xs, ∃ x, look H b = some x
  | [], _, _, _, _, _, _, _, _, ⟨_, hx, _⟩, b, hb => by subst hx; simp at hb
  | (_, .sc _) :: _, _, _, _, _, _, _, _, _, ⟨_, hr⟩, b, hb => tl_live hr b hb
  | (_, .rows _) :: _, _, _, _, _, _, _, _, _, ⟨_, _, _, _, _, _, _, _, _, _, hr⟩, b, hb => tl_live hr b hb
  | (_, .mrows _) :: _, _, _, _, _, _, _, _, _, ⟨b0, xs', _, _, hl, hx, hr⟩, b, hb => by
    subst hx
    rcases List.mem_cons.1 hb with h | h
    · exact ⟨_, h ▸ hl⟩
    · exact tl_live hr b h
  | (_, .box _) :: _, _, _, _, _, _, _, _, _, ⟨b0, _, _, _, _, _, _, _, _, _, _, _, ⟨_, hl⟩, _, _, _, _, _, _, _, _, hx, _, _, hr⟩, b, hb => by
    subst hx
    rcases List.mem_cons.1 hb with h | h
    · exact ⟨_, h ▸ hl⟩
    · exact tl_live hr b h

theorem BlkR.row_of {ι ι2 : Nat → Inf} {K K2 : Nat → Prop} {S : Nat → Prop} {i : Inf} {t : Ty} {xs : List t.den} (h : BlkR P ι K w S i (.row t xs)) (hT : ∀ c, S c → T c) : BlkR P ι2 K2 w T i (.row t xs) :=
  h.imp id fun ⟨room, cs, e, vs, hk, hb, h1, h2, h3, h4⟩ => ⟨room, cs, e, vs, hk, hb, h1, h2, RepList.mono (fun _ _ => Rep.mono fun c hc => ⟨hT c hc, rfl⟩) h3, h4⟩
theorem avr_rows {ι ι2 : Nat → Inf} {K K2 : Nat → Prop} {S S2 : Nat → Prop} {b : Nat} {t : Ty} {x : Value} (h : AVR P ι K w S (.rows b t) x) (hK : K2 b) (hi : ι2 b = ι b) : AVR P ι2 K2 w S2 (.rows b t) x := by
  obtain ⟨cs, hc, hv⟩ := h
  refine ⟨cs, ?_, hv⟩
  simp only [AVC] at hc ⊢
  rw [hi]
  exact ⟨hK, hc.2⟩
theorem avr_ptr {ι ι2 : Nat → Inf} {K K2 : Nat → Prop} {S S2 : Nat → Prop} {b : Nat} {p : List PS} {t : Ty} {x : Value} (h : AVR P ι K w S (.ptr b p t) x) (hK : K2 b) (hi : ι2 b = ι b) : AVR P ι2 K2 w S2 (.ptr b p t) x := by
  obtain ⟨cs, hc, hv⟩ := h
  refine ⟨cs, ?_, hv⟩
  simp only [AVC] at hc ⊢
  rw [hi]
  exact ⟨hK, hc.2⟩

/-- what is laid, in a state -/
structure Put (P : Program) (F : Fr) (ι ι' : Nat → Inf) (K K' : Nat → Prop) (s s' : St) (w : World) (T : Nat → Prop) (O : List Nat) (X : Nat → Prop) : Prop where
  inv : InvR P F ι' K' s'.heap w T
  known : ∀ b, K b → K' b ∧ ι' b = ι b
  news : ∀ b, K' b → K b ∨ s.next ≤ b
  under : ∀ b, K' b → b < s'.next
  own : ∀ c, Own ι' s'.heap c → Own ι s.heap c ∨ c ∈ O ∨ X c

def XP (ι' : Nat → Inf) (xs : List Nat) (c : Nat) : Prop := ∃ b ∈ xs, (ι' b).kind.real = true ∧ (ι' b).c = c

theorem putLoop_ok (hI' : Inv P F ι' K' H' w) : ∀ {l : Ann} {σ : lden l} {ks xs O fz : List Nat} {s : St} {ι : Nat → Inf} {K : Nat → Prop}, TL P F ι' K' H' w l σ tm av ks xs O fz → InvR P F ι K s.heap w T → (∀ c, RegX F ι' H' w fz c → T c) →
    (∀ c ∈ O, ¬ Own ι s.heap c ∧ (F.O0 c ∨ F.w0.heap.size ≤ c)) → O.Nodup → (∀ b ∈ xs, K b ∧ ι b = ι' b ∧ look s.heap b = none ∧ ((ι' b).kind.real = true → ¬ Own ι s.heap (ι' b).c ∧ (ι' b).c ∉ O)) → xs.Nodup →
    (∀ b, K b → b < s.next) → (l.map (·.1)).Nodup → (∀ p ∈ l, p.2.stays = true → getT s.tmps p.1 = getT tm p.1) → (∀ d, d ∉ l.map (·.1) → AVR P ι K w T (getT s.tmps d) (av d)) →
    ∃ ι2 K2, Put P F ι ι2 K K2 s (putLoop l σ s) w T O (XP ι' xs) ∧ ∀ d, AVR P ι2 K2 w T (getT (putLoop l σ s).tmps d) (av d)
  | [], σ, ks, xs, O, fz, s, ι, K, ⟨_, hx, _⟩, hI, hT, hO, hOn, hX, hxn, hK, hnd, hst, hsl =>
    ⟨ι, K, ⟨hI, fun b hb => ⟨hb, rfl⟩, fun b hb => .inl hb, hK, fun c hc => .inl hc⟩, fun d => hsl d (by simp)⟩
  | (d, .sc t) :: r, σ, ks, xs, O, fz, s, ι, K, ⟨hv, hr⟩, hI, hT, hO, hOn, hX, hxn, hK, hnd, hst, hsl => by
    obtain ⟨hd, hnd⟩ := List.nodup_cons.1 hnd
    refine Exists.elim (putLoop_ok hI' (s := { s with tmps := setT s.tmps d (.val t σ.1) }) hr hI hT hO hOn hX hxn hK hnd (fun p hp hs => ?_) (fun e he => ?_)) fun ι2 hmain => ?main
    case main =>
      obtain ⟨K2, hp, hs2⟩ := hmain
      exact ⟨ι2, K2, ⟨hp.inv, hp.known, hp.news, hp.under, hp.own⟩, hs2⟩
    · rw [← hst p (List.mem_cons_of_mem _ hp) hs]
      show getT (setT s.tmps d _) p.1 = _
      rw [getT_set, if_neg (fun h : p.1 = d ∧ _ => hd (List.mem_map.2 ⟨p, hp, h.1⟩))]
    · show AVR P ι K w T (getT (setT s.tmps d _) e) (av e)
      rw [getT_set]
      split
      · rename_i h; obtain ⟨rfl, _⟩ := h
        exact avr_val.2 (hv.mono fun c hc => ⟨hT c (.inl hc), rfl⟩)
      · rename_i h
        by_cases hde : e = d
        · subst hde
          have : getT s.tmps e = .undef := by
            have hge : ¬ e < s.tmps.length := fun hlt => h ⟨rfl, hlt⟩
            exact getT_none hge
          rw [this]
          exact ⟨[av e], by unfold AVC; exact ⟨_, rfl⟩, rfl⟩
        · exact hsl e (by simp [hde, he])
  | (d, .rows t) :: r, σ, ks, xs, O, fz, s, ι, K, ⟨cs, ts, O1, ks', O', hval, hsh, hpl, hks, hOe, hr⟩, hI, hT, hO, hOn, hX, hxn, hK, hnd, hst, hsl => by
    subst hOe
    obtain ⟨hd, hnd⟩ := List.nodup_cons.1 hnd
    obtain ⟨hO1n, hO2n, hdis⟩ := List.nodup_append.1 hOn
    have hmn : (putSh (.rows t) σ.1 s.next).2.2 = s.next + 1 := rfl
    obtain ⟨ι1, K1, L1, hv1, _⟩ := putSh_ok (s := .rows t) (y := σ.1) (n := s.next) hI (hsh.mono (fun c hc => ⟨hT c (.inl hc), rfl⟩) (fun _ _ => rfl)) (fun c hc => hO c (by simp [hc])) hO1n (fun b h1 _ hk => by have := hK b hk; omega)
    have hks1 : ∀ b, K1 b → b < s.next + 1 := fun b hb => by
      rcases L1.news b hb with h | h
      · have := hK b h; omega
      · omega
    refine Exists.elim (putLoop_ok hI' (s := { s with tmps := setT s.tmps d (.rows s.next t), heap := (s.next, some (.row t σ.1)) :: s.heap, next := s.next + 1 }) (ι := ι1) (K := K1) hr L1.inv hT (fun c hc => ⟨fun ho => ?_, (hO c (by simp [hc])).2⟩) hO2n
      (fun b hb => ?_) hxn hks1 hnd (fun p hp hs => ?_) (fun e he => ?_)) fun ι2 hmain => ?main
    case main =>
      obtain ⟨K2, hp, hs2⟩ := hmain
      refine ⟨ι2, K2, ⟨hp.inv, fun b hb => ⟨(hp.known b (L1.known b hb).1).1, (hp.known b (L1.known b hb).1).2.trans (L1.known b hb).2⟩, fun b hb => ?_, hp.under, fun c hc => ?_⟩, hs2⟩
      · rcases hp.news b hb with h | h
        · rcases L1.news b h with h | h
          · exact .inl h
          · exact .inr h.1
        · have h : s.next + 1 ≤ b := h
          exact .inr (by omega)
      · rcases hp.own c hc with h | h | h
        · rcases L1.own c h with h | h
          · exact .inl h
          · exact .inr (.inl (by simp [h]))
        · exact .inr (.inl (by simp [h]))
        · exact .inr (.inr h)
    · rcases L1.own c ho with h | h
      · exact (hO c (by simp [hc])).1 h
      · exact hdis c h c hc rfl
    · obtain ⟨h1, h2, h3, h4⟩ := hX b hb
      refine ⟨(L1.known b h1).1, (L1.known b h1).2.trans h2, ?_, fun hr => ⟨fun ho => ?_, fun hc => (h4 hr).2 (by simp [hc])⟩⟩
      · show look ((s.next, _) :: s.heap) b = none
        rw [look_cons, if_neg (by have := hK b h1; omega)]
        exact h3
      · rcases L1.own _ ho with h | h
        · exact (h4 hr).1 h
        · exact (h4 hr).2 (by simp [h])
    · rw [← hst p (List.mem_cons_of_mem _ hp) hs]
      show getT (setT s.tmps d _) p.1 = _
      rw [getT_set, if_neg (fun h : p.1 = d ∧ _ => hd (List.mem_map.2 ⟨p, hp, h.1⟩))]
    · show AVR P ι1 K1 w T (getT (setT s.tmps d _) e) (av e)
      rw [getT_set]
      split
      · rename_i h; obtain ⟨rfl, _⟩ := h
        exact ⟨cs, hv1, hval⟩
      · rename_i h
        by_cases hde : e = d
        · subst hde
          have : getT s.tmps e = .undef := getT_none fun hlt => h ⟨rfl, hlt⟩
          rw [this]
          exact ⟨[av e], by unfold AVC; exact ⟨_, rfl⟩, rfl⟩
        · exact (hsl e (by simp [hde, he])).mono L1.known (fun c hc => ⟨hc, rfl⟩) (Nat.le_refl _)
  | (d, .mrows t) :: r, σ, ks, xs, O, fz, s, ι, K, ⟨b0, xs', hb0, hav, hlk, hxs, hr⟩, hI, hT, hO, hOn, hX, hxn, hK, hnd, hst, hsl => by
    subst hxs
    obtain ⟨hd, hnd⟩ := List.nodup_cons.1 hnd
    obtain ⟨hx0, hxn⟩ := List.nodup_cons.1 hxn
    have g1 : getT s.tmps d = .rows b0 t := (hst (d, .mrows t) List.mem_cons_self rfl).trans hb0
    obtain ⟨hk0, hi0, hl0, hr0⟩ := hX b0 List.mem_cons_self
    obtain ⟨i1, i2, i3⟩ := hI.add hl0 (ι' b0) (.inr hi0) (.row t σ.1) ((hI'.blks b0 _ hlk).row_of fun c hc => hT c (.inl hc)) (fun hr => ⟨(hr0 hr).1, hI'.mine b0 _ hlk hr⟩)
    simp only [putLoop, g1]
    have hsame : upd ι b0 (ι' b0) b0 = ι' b0 := by simp [upd]
    refine Exists.elim (putLoop_ok hI' (s := { s with heap := (b0, some (.row t σ.1)) :: s.heap }) hr i1 hT (fun c hc => ⟨fun ho => ?_, (hO c hc).2⟩) hOn
      (fun b hb => ?_) hxn (fun b hb => ?_) hnd (fun p hp hs => hst p (List.mem_cons_of_mem _ hp) hs) (fun e he => ?_)) fun ι2 hmain => ?main
    case main =>
      obtain ⟨K2, hp, hs2⟩ := hmain
      refine ⟨ι2, K2, ⟨hp.inv, fun b hb => ⟨(hp.known b (i2 b hb).1).1, (hp.known b (i2 b hb).1).2.trans (i2 b hb).2⟩, fun b hb => ?_, hp.under, fun c hc => ?_⟩, hs2⟩
      · rcases hp.news b hb with (h | h) | h
        · exact .inl h
        · exact .inl (h ▸ hk0)
        · exact .inr h
      · rcases hp.own c hc with h | h | ⟨b, hb, h⟩
        · rcases i3 c h with h | ⟨h1, h2⟩
          · exact .inl h
          · exact .inr (.inr ⟨b0, List.mem_cons_self, h1, h2.symm⟩)
        · exact .inr (.inl h)
        · exact .inr (.inr ⟨b, List.mem_cons_of_mem _ hb, h⟩)
    · rcases i3 c ho with h | ⟨h1, h2⟩
      · exact (hO c hc).1 h
      · exact (hr0 h1).2 (h2 ▸ hc)
    · obtain ⟨h1, h2, h3, h4⟩ := hX b (List.mem_cons_of_mem _ hb)
      have hne : b ≠ b0 := fun e => hx0 (e ▸ hb)
      refine ⟨.inl h1, (i2 b h1).2.trans h2, ?_, fun hre => ⟨fun ho => ?_, (h4 hre).2⟩⟩
      · show look ((b0, _) :: s.heap) b = none
        rw [look_cons, if_neg hne]
        exact h3
      · rcases i3 _ ho with h | ⟨h5, h6⟩
        · exact (h4 hre).1 h
        · obtain ⟨y, hy⟩ := tl_live hr b hb
          exact hne (hI'.inj b b0 _ _ hy hlk hre h5 h6)
    · rcases hb with h | h
      · exact hK b h
      · exact h ▸ hK b0 hk0
    · by_cases hde : e = d
      · subst hde
        rw [g1]
        exact avr_rows hav (.inr rfl) hsame
      · exact (hsl e (by simp [hde, he])).mono i2 (fun c hc => ⟨hc, rfl⟩) (Nat.le_refl _)
  | (d, .box sh) :: r, σ, ks, xs, O, fz, s, ι, K, ⟨b0, cells, e0, ts, O1, fz1, ks', xs', O', fz', hb0, hav, ⟨c0, hlk⟩, hkind, hd0, hcl, hlen, hone, hsh, hpl, hks, hxs, hOe, hfe, hr⟩, hI, hT, hO, hOn, hX, hxn, hK, hnd, hst, hsl => by
    subst hxs hOe hfe
    obtain ⟨hd, hnd⟩ := List.nodup_cons.1 hnd
    obtain ⟨hx0, hxn⟩ := List.nodup_cons.1 hxn
    obtain ⟨hO1n, hO2n, hdis⟩ := List.nodup_append.1 hOn
    have g1 : getT s.tmps d = .ptr b0 [] sh.ty := (hst (d, .box sh) List.mem_cons_self rfl).trans hb0
    obtain ⟨hk0, hi0, hl0, hr0⟩ := hX b0 List.mem_cons_self
    have hreal : (ι' b0).kind.real = true := by rw [hkind]; rfl
    have hle := putSh_le sh σ.1 s.next
    obtain ⟨ι1, K1, L1, hv1, hf1⟩ := putSh_ok (n := s.next) hI (hsh.mono (fun c hc => ⟨hT c (hc.sub fun b hb => List.mem_append_left _ hb), rfl⟩) (fun _ _ => rfl)) (fun c hc => hO c (by simp [hc])) hO1n (fun b h1 _ hk => by have := hK b hk; omega)
    have hlk1 : look ((putSh sh σ.1 s.next).2.1 ++ s.heap) b0 = none := by
      rw [look_keys (fun hm => ?_)]
      · exact hl0
      · have := putSh_keys sh σ.1 s.next b0 hm
        have := hK b0 hk0
        omega
    have hi1 : ι1 b0 = ι' b0 := (L1.known b0 hk0).2.trans hi0
    have hown1 : ¬ Own ι1 ((putSh sh σ.1 s.next).2.1 ++ s.heap) (ι' b0).c := fun ho => by
      rcases L1.own _ ho with h | h
      · exact (hr0 hreal).1 h
      · exact (hr0 hreal).2 (by simp [h])
    obtain ⟨i1, i2, i3⟩ := L1.inv.add hlk1 (ι' b0) (.inr hi1) (.box sh.ty (putSh sh σ.1 s.next).1) ⟨hkind, hd0, cells, e0, hcl, hv1.known (fun d hd => ⟨.inl hd, by unfold upd; split <;> simp_all⟩), hlen, hone.put _ _, hf1⟩ (fun hre => ⟨hown1, hI'.mine b0 _ hlk hre⟩)
    simp only [putLoop, g1]
    have hsame : upd ι1 b0 (ι' b0) b0 = ι' b0 := by simp [upd]
    refine Exists.elim (putLoop_ok hI' (s := { s with heap := (b0, some (.box sh.ty (putSh sh σ.1 s.next).1)) :: ((putSh sh σ.1 s.next).2.1 ++ s.heap), next := (putSh sh σ.1 s.next).2.2 }) hr i1 (fun c hc => hT c (hc.sub fun b hb => List.mem_append_right _ hb)) (fun c hc => ⟨fun ho => ?_, (hO c (by simp [hc])).2⟩) hO2n
      (fun b hb => ?_) hxn (fun b hb => ?_) hnd (fun p hp hs => hst p (List.mem_cons_of_mem _ hp) hs) (fun e he => ?_)) fun ι2 hmain => ?main
    case main =>
      obtain ⟨K2, hp, hs2⟩ := hmain
      refine ⟨ι2, K2, ⟨hp.inv, fun b hb => ⟨(hp.known b (i2 b (L1.known b hb).1).1).1, (hp.known b (i2 b (L1.known b hb).1).1).2.trans ((i2 b (L1.known b hb).1).2.trans (L1.known b hb).2)⟩, fun b hb => ?_, hp.under, fun c hc => ?_⟩, hs2⟩
      · rcases hp.news b hb with (h | h) | h
        · rcases L1.news b h with h | h
          · exact .inl h
          · exact .inr h.1
        · exact .inl (h ▸ hk0)
        · have h : (putSh sh σ.1 s.next).2.2 ≤ b := h
          exact .inr (by omega)
      · rcases hp.own c hc with h | h | ⟨b, hb, h⟩
        · rcases i3 c h with h | ⟨h1, h2⟩
          · rcases L1.own c h with h | h
            · exact .inl h
            · exact .inr (.inl (by simp [h]))
          · exact .inr (.inr ⟨b0, List.mem_cons_self, h1, h2.symm⟩)
        · exact .inr (.inl (by simp [h]))
        · exact .inr (.inr ⟨b, List.mem_cons_of_mem _ hb, h⟩)
    · rcases i3 c ho with h | ⟨h1, h2⟩
      · rcases L1.own c h with h | h
        · exact (hO c (by simp [hc])).1 h
        · exact hdis c h c hc rfl
      · exact (hr0 h1).2 (h2 ▸ by simp [hc])
    · obtain ⟨h1, h2, h3, h4⟩ := hX b (List.mem_cons_of_mem _ hb)
      have hne : b ≠ b0 := fun e => hx0 (e ▸ hb)
      refine ⟨.inl (L1.known b h1).1, (i2 b (L1.known b h1).1).2.trans ((L1.known b h1).2.trans h2), ?_, fun hre => ⟨fun ho => ?_, fun hc => (h4 hre).2 (by simp [hc])⟩⟩
      · show look ((b0, _) :: ((putSh sh σ.1 s.next).2.1 ++ s.heap)) b = none
        rw [look_cons, if_neg hne, look_keys (fun hm => ?_)]
        · exact h3
        · have := putSh_keys sh σ.1 s.next b hm
          have := hK b h1
          omega
      · rcases i3 _ ho with h | ⟨h5, h6⟩
        · rcases L1.own _ h with h | h
          · exact (h4 hre).1 h
          · exact (h4 hre).2 (by simp [h])
        · obtain ⟨y, hy⟩ := tl_live hr b hb
          exact hne (hI'.inj b b0 _ _ hy hlk hre h5 h6)
    · show b < (putSh sh σ.1 s.next).2.2
      rcases hb with h | h
      · rcases L1.news b h with h | h
        · have := hK b h; omega
        · exact h.2
      · subst h; have := hK b hk0; omega
    · by_cases hde : e = d
      · subst hde
        rw [g1]
        exact avr_ptr hav (.inr rfl) hsame
      · exact ((hsl e (by simp [hde, he])).mono L1.known (fun c hc => ⟨hc, rfl⟩) (Nat.le_refl _)).mono i2 (fun c hc => ⟨hc, rfl⟩) (Nat.le_refl _)

end
end Go.Tm

namespace Go.Tm
open Go

theorem getT_undefs : ∀ (ds : List Nat) (l : Tmps) (keep : List Nat) (d : Nat), (d ∈ ds → d ∈ keep) → getT (undefs l keep ds) d = getT l d
  | [], _, _, _, _ => rfl
  | e :: ds, l, keep, d, h => by
    unfold undefs
    rw [getT_undefs ds _ keep d fun hd => h (List.mem_cons_of_mem _ hd)]
    cases hm : memN keep e with
    | true => rfl
    | false =>
      show getT (setT l e .undef) d = _
      rw [getT_set, if_neg (fun hc : d = e ∧ _ => ?_)]
      have := memN_iff.2 (h (hc.1 ▸ List.mem_cons_self))
      rw [hc.1, hm] at this
      exact Bool.noConfusion this
theorem getT_undefs_gone : ∀ (ds : List Nat) (l : Tmps) (keep : List Nat) (d : Nat), d ∉ keep → (d ∈ ds ∨ getT l d = .undef) → getT (undefs l keep ds) d = .undef
  | [], _, _, _, _, h => h.elim (fun h => by simp at h) id
  | e :: ds, l, keep, d, hk, h => by
    unfold undefs
    refine getT_undefs_gone ds _ keep d hk ?_
    by_cases hd : d ∈ ds
    · exact .inl hd
    · refine .inr ?_
      by_cases he : d = e
      · subst he
        have : memN keep d = false := by cases hm : memN keep d with | false => rfl | true => exact absurd (memN_iff.1 hm) hk
        rw [this]
        show getT (setT l d .undef) d = _
        rw [getT_set]
        split
        · rfl
        · rename_i hc
          exact getT_none fun hlt => hc ⟨rfl, hlt⟩
      · have h0 : getT l d = .undef := by
          rcases h with h | h
          · rcases List.mem_cons.1 h with h | h
            · exact absurd h he
            · exact absurd h hd
          · exact h
        cases memN keep e with
        | true => exact h0
        | false =>
          show getT (setT l e .undef) d = _
          rw [getT_set, if_neg (fun hc : d = e ∧ _ => he hc.1)]
          exact h0
theorem undefs_length : ∀ (ds : List Nat) (l : Tmps) (keep : List Nat), (undefs l keep ds).length = l.length
  | [], _, _ => rfl
  | e :: ds, l, keep => by
    unfold undefs
    rw [undefs_length ds]
    cases memN keep e with
    | true => rfl
    | false => exact setT_length _ _ _

section
variable {P : Program} {F : Fr} {ι ι0 ι' : Nat → Inf} {K K0 K' : Nat → Prop} {H H' : Heap} {w w0 w' : World} {tm : Tmps} {av : Nat → Value} {S S0 S' : Nat → Prop}

theorem tl_pls : ∀ {l : Ann} {σ : lden l} {ks xs O fz : List Nat}, TL P F ι K H w l σ tm av ks xs O fz → Pls (Pl ι H) ks O fz
  | [], _, _, _, _, _, ⟨h1, _, h2, h3⟩ => by subst h1 h2 h3; exact .nil
  | (_, .sc _) :: _, _, _, _, _, _, ⟨_, hr⟩ => tl_pls hr
  | (_, .rows _) :: _, _, _, _, _, _, ⟨_, _, _, _, _, _, _, hp, hk, hO, hr⟩ => by
    subst hk hO
    exact hp.append (tl_pls hr)
  | (_, .mrows _) :: _, _, _, _, _, _, ⟨_, _, _, _, _, _, hr⟩ => tl_pls hr
  | (_, .box _) :: _, _, _, _, _, _, ⟨_, _, _, _, _, _, _, _, _, _, _, _, _, _, _, _, _, _, _, hp, hk, _, hO, hf, hr⟩ => by
    subst hk hO hf
    exact hp.append (tl_pls hr)

theorem tl_stays {tm' : Tmps} {av' : Nat → Value} : ∀ {l : Ann} {σ σ' : lden l} {ks ks' xs O fz O' fz' : List Nat}, TL P F ι K H w l σ tm av ks xs O fz → TL P F ι' K' H' w' l σ' tm' av' ks' xs O' fz' → ∀ p ∈ l, p.2.stays = true → getT tm p.1 = getT tm' p.1
  | [], _, _, _, _, _, _, _, _, _, _, _, p, hp, _ => by simp at hp
  | (_, .sc _) :: _, _, _, _, _, _, _, _, _, _, ⟨_, hr⟩, ⟨_, hr'⟩, p, hp, hs => by
    rcases List.mem_cons.1 hp with e | hp
    · subst e; simp [LK.stays] at hs
    · exact tl_stays hr hr' p hp hs
  | (_, .rows _) :: _, _, _, _, _, _, _, _, _, _, ⟨_, _, _, _, _, _, _, _, _, _, hr⟩, ⟨_, _, _, _, _, _, _, _, _, _, hr'⟩, p, hp, hs => by
    rcases List.mem_cons.1 hp with e | hp
    · subst e; simp [LK.stays] at hs
    · exact tl_stays hr hr' p hp hs
  | (_, .mrows _) :: _, _, _, _, _, _, _, _, _, _, ⟨b, xs1, h1, _, _, h2, hr⟩, ⟨b', xs1', h1', _, _, h2', hr'⟩, p, hp, hs => by
    rw [h2] at h2'
    obtain ⟨e1, e2⟩ := List.cons.inj h2'
    subst e1 e2
    rcases List.mem_cons.1 hp with e | hp
    · subst e; exact h1.trans h1'.symm
    · exact tl_stays hr hr' p hp hs
  | (_, .box _) :: _, _, _, _, _, _, _, _, _, _, ⟨b, _, _, _, _, _, _, xs1, _, _, h1, _, _, _, _, _, _, _, _, _, _, h2, _, _, hr⟩, ⟨b', _, _, _, _, _, _, xs1', _, _, h1', _, _, _, _, _, _, _, _, _, _, h2', _, _, hr'⟩, p, hp, hs => by
    rw [h2] at h2'
    obtain ⟨e1, e2⟩ := List.cons.inj h2'
    subst e1 e2
    rcases List.mem_cons.1 hp with e | hp
    · subst e; exact h1.trans h1'.symm
    · exact tl_stays hr hr' p hp hs

/-- slots that are laid in no other way stand -/
theorem putLoop_slot : ∀ (l : Ann) (σ : lden l) (s : St) (d : Nat), (∀ p ∈ l, p.2.stays = false → p.1 ≠ d) → getT (putLoop l σ s).tmps d = getT s.tmps d
  | [], _, _, _, _ => rfl
  | (e, .sc t) :: r, σ, s, d, h => by
    refine (putLoop_slot r σ.2 { s with tmps := setT s.tmps e (.val t σ.1) } d fun p hp => h p (List.mem_cons_of_mem _ hp)).trans ?_
    show getT (setT s.tmps e _) d = _
    rw [getT_set, if_neg (fun hc : d = e ∧ _ => h (e, .sc t) List.mem_cons_self rfl hc.1.symm)]
  | (e, .rows t) :: r, σ, s, d, h => by
    refine (putLoop_slot r σ.2 { s with tmps := setT s.tmps e (.rows s.next t), heap := (s.next, some (.row t σ.1)) :: s.heap, next := s.next + 1 } d fun p hp => h p (List.mem_cons_of_mem _ hp)).trans ?_
    show getT (setT s.tmps e _) d = _
    rw [getT_set, if_neg (fun hc : d = e ∧ _ => h (e, .rows t) List.mem_cons_self rfl hc.1.symm)]
  | (e, .mrows t) :: r, σ, s, d, h => by
    simp only [putLoop]
    split
    · exact putLoop_slot r σ.2 { s with heap := _ } d fun p hp => h p (List.mem_cons_of_mem _ hp)
    · exact putLoop_slot r σ.2 s d fun p hp => h p (List.mem_cons_of_mem _ hp)
  | (e, .box sh) :: r, σ, s, d, h => by
    simp only [putLoop]
    split
    · exact putLoop_slot r σ.2 { s with heap := _, next := (putSh sh σ.1 s.next).2.2 } d fun p hp => h p (List.mem_cons_of_mem _ hp)
    · exact putLoop_slot r σ.2 s d fun p hp => h p (List.mem_cons_of_mem _ hp)

/-- blocks that are not laid stand -/
theorem putLoop_heap : ∀ {l : Ann} {σ σ' : lden l} {ks xs O fz : List Nat} {s : St} {b : Nat}, TL P F ι' K' H' w l σ' tm av ks xs O fz → (l.map (·.1)).Nodup → (∀ p ∈ l, p.2.stays = true → getT s.tmps p.1 = getT tm p.1) → b < s.next → b ∉ xs → look (putLoop l σ s).heap b = look s.heap b
  | [], _, _, _, _, _, _, _, _, _, _, _, _, _ => rfl
  | (d, .sc t) :: r, σ, σ', ks, xs, O, fz, s, b, ⟨_, hr⟩, hnd, hst, hb, hx => by
    obtain ⟨hd, hnd⟩ := List.nodup_cons.1 hnd
    refine putLoop_heap (s := { s with tmps := setT s.tmps d (.val t σ.1) }) hr hnd (fun p hp hs => ?_) hb hx
    rw [← hst p (List.mem_cons_of_mem _ hp) hs]
    show getT (setT s.tmps d _) p.1 = _
    rw [getT_set, if_neg (fun h : p.1 = d ∧ _ => hd (List.mem_map.2 ⟨p, hp, h.1⟩))]
  | (d, .rows t) :: r, σ, σ', ks, xs, O, fz, s, b, ⟨_, _, _, _, _, _, _, _, _, _, hr⟩, hnd, hst, hb, hx => by
    obtain ⟨hd, hnd⟩ := List.nodup_cons.1 hnd
    refine (putLoop_heap (s := { s with tmps := setT s.tmps d (.rows s.next t), heap := (s.next, some (.row t σ.1)) :: s.heap, next := s.next + 1 }) hr hnd (fun p hp hs => ?_) (Nat.lt_succ_of_lt hb) hx).trans ?_
    · rw [← hst p (List.mem_cons_of_mem _ hp) hs]
      show getT (setT s.tmps d _) p.1 = _
      rw [getT_set, if_neg (fun h : p.1 = d ∧ _ => hd (List.mem_map.2 ⟨p, hp, h.1⟩))]
    · show look ((s.next, _) :: s.heap) b = _
      rw [look_cons, if_neg (by omega)]
  | (d, .mrows t) :: r, σ, σ', ks, xs, O, fz, s, b, ⟨b0, xs', hb0, _, _, hxs, hr⟩, hnd, hst, hb, hx => by
    subst hxs
    obtain ⟨hd, hnd⟩ := List.nodup_cons.1 hnd
    have g1 : getT s.tmps d = .rows b0 t := (hst (d, .mrows t) List.mem_cons_self rfl).trans hb0
    simp only [putLoop, g1]
    refine (putLoop_heap (s := { s with heap := (b0, some (.row t σ.1)) :: s.heap }) hr hnd (fun p hp hs => hst p (List.mem_cons_of_mem _ hp) hs) hb (fun h => hx (List.mem_cons_of_mem _ h))).trans ?_
    show look ((b0, _) :: s.heap) b = _
    rw [look_cons, if_neg (fun h : b = b0 => hx (h ▸ List.mem_cons_self))]
  | (d, .box sh) :: r, σ, σ', ks, xs, O, fz, s, b, ⟨b0, _, _, _, _, _, _, xs', _, _, hb0, _, _, _, _, _, _, _, _, _, _, hxs, _, _, hr⟩, hnd, hst, hb, hx => by
    subst hxs
    obtain ⟨hd, hnd⟩ := List.nodup_cons.1 hnd
    have g1 : getT s.tmps d = .ptr b0 [] sh.ty := (hst (d, .box sh) List.mem_cons_self rfl).trans hb0
    have hle := putSh_le sh σ.1 s.next
    simp only [putLoop, g1]
    refine (putLoop_heap (s := { s with heap := (b0, some (.box sh.ty (putSh sh σ.1 s.next).1)) :: ((putSh sh σ.1 s.next).2.1 ++ s.heap), next := (putSh sh σ.1 s.next).2.2 }) hr hnd (fun p hp hs => hst p (List.mem_cons_of_mem _ hp) hs) (Nat.lt_of_lt_of_le hb hle) (fun h => hx (List.mem_cons_of_mem _ h))).trans ?_
    show look ((b0, _) :: ((putSh sh σ.1 s.next).2.1 ++ s.heap)) b = _
    have hkey : b ∉ keys (putSh sh σ.1 s.next).2.1 := fun hm => by
      have := putSh_keys sh σ.1 s.next b hm
      omega
    rw [look_cons, if_neg (fun h : b = b0 => hx (h ▸ List.mem_cons_self)), look_keys hkey]

mutual
/-- a value that was known before is known of the same blocks -/
theorem AVC.back (hk : ∀ b, K0 b → ι' b = ι0 b) : ∀ {v : AV} {cs0 cs : List Value}, AVC P ι0 K0 w0 S0 v cs0 → AVC P ι' K' w' S' v cs → AVC P ι0 K0 w' S' v cs
  | .undef, _, _, _, h => by simp only [AVC] at h ⊢; exact h
  | .val _ _, _, _, _, h => by simp only [AVC] at h ⊢; exact h
  | .nilS, _, _, _, h => by simp only [AVC] at h ⊢; exact h
  | .rows b _, _, _, h0, h => by simp only [AVC] at h0 h ⊢; rw [hk b h0.1] at h; exact ⟨h0.1, h.2⟩
  | .view b _ _ _ _, _, _, h0, h => by simp only [AVC] at h0 h ⊢; rw [hk b h0.1] at h; exact ⟨h0.1, h.2⟩
  | .ptr b _ _, _, _, h0, h => by simp only [AVC] at h0 h ⊢; rw [hk b h0.1] at h; exact ⟨h0.1, h.2⟩
  | .aptr b _ _ _ _, _, _, h0, h => by simp only [AVC] at h0 h ⊢; rw [hk b h0.1] at h; exact ⟨h0.1, h.2⟩
  | .iptr _ _, _, _, _, h => by simp only [AVC] at h ⊢; exact h
  | .unit, _, _, _, h => by simp only [AVC] at h ⊢; exact h
  | .pair a b, _, _, h0, h => by
    simp only [AVC] at h0 h ⊢
    obtain ⟨_, _, _, ha0, hb0⟩ := h0
    obtain ⟨c, d, e, ha, hb⟩ := h
    exact ⟨c, d, e, AVC.back hk ha0 ha, AVC.back hk hb0 hb⟩
  | .tuple vs, _, _, h0, h => by
    simp only [AVC] at h0 h ⊢
    obtain ⟨_, _, hv0⟩ := h0
    obtain ⟨xs, e, hv⟩ := h
    exact ⟨xs, e, AVCs.back hk hv0 hv⟩
  | .fn f first caps, _, _, h0, h => by
    simp only [AVC] at h0 h ⊢
    obtain ⟨_, _, _, h1, h2⟩ := h0
    obtain ⟨xs, ys, e, h3, h4⟩ := h
    exact ⟨xs, ys, e, AVCs.back hk h1 h3, AVCs.back hk h2 h4⟩
  | .fun s g, _, _, _, h => by simp only [AVC] at h ⊢; exact h
theorem AVCs.back (hk : ∀ b, K0 b → ι' b = ι0 b) : ∀ {vs : List AV} {xs0 xs : List Value}, AVCs P ι0 K0 w0 S0 vs xs0 → AVCs P ι' K' w' S' vs xs → AVCs P ι0 K0 w' S' vs xs
  | [], _, _, _, h => by simp only [AVCs] at h ⊢; exact h
  | v :: r, _, _, h0, h => by
    simp only [AVCs] at h0 h ⊢
    obtain ⟨_, _, _, _, hc0, _, hr0⟩ := h0
    obtain ⟨x, ys, cs, e, hc, hv, hr⟩ := h
    exact ⟨x, ys, cs, e, AVC.back hk hc0 hc, hv, AVCs.back hk hr0 hr⟩
end
theorem BlkR.back {T : Nat → Prop} (hk : ∀ b, K0 b → ι' b = ι0 b) {i : Inf} : ∀ {x : Blk}, BlkR P ι0 K0 w0 S0 i x → BlkR P ι' K' w' S' i x → (∀ c, S' c → T c) → BlkR P ι0 K0 w' T i x
  | .box t v, ⟨_, _, _, _, _, hv0, _⟩, ⟨hk', hd, cs, e, hb, hv, hl, h1, hf⟩, hT => ⟨hk', hd, cs, e, hb, (hv0.back hk hv).mono (fun _ h => ⟨h, rfl⟩) (fun c hc => ⟨hT c hc, rfl⟩) (Nat.le_refl _), hl, h1, hf⟩
  | .row t xs, _, h, hT => h.row_of hT

theorem own_look {ι : Nat → Inf} {H G : Heap} (h : ∀ b, look H b = look G b) {c : Nat} : Own ι H c ↔ Own ι G c := by
  constructor <;> rintro ⟨b, x, h1, h2⟩
  · exact ⟨b, x, (h b).symm.trans h1, h2⟩
  · exact ⟨b, x, (h b).trans h1, h2⟩
theorem reg_look {ι : Nat → Inf} {H G : Heap} (h : ∀ b, look H b = look G b) {c : Nat} : Reg F ι H w c ↔ Reg F ι G w c := by
  unfold Reg; rw [own_look h]

end

/-- the state at a loop's head -/
def headSt (s : St) (l : Ann) (ds ks : List Nat) : St := { s with tmps := undefs s.tmps (l.map (·.1)) ds, heap := kills ks ++ s.heap, dirty := [] }

section
variable {P : Program} {F : Fr} {ι ι' : Nat → Inf} {K K' : Nat → Prop} {s s' : St} {a a' : Act} {w w' : World} {l : Ann} {σ σ' : lden l} {ks ks' xs O O' fz fz' ds : List Nat}

/-- back to a loop's head -/
theorem head_ok (hon : On P F ι K s a w) (hK : ∀ b, K b → b < s.next) (htl : TL P F ι K s.heap w l σ s.tmps (fun d => a.tmps.getD d undef) ks xs O fz) (hnd : (l.map (·.1)).Nodup) (hon' : On P F ι' K' s' a' w') (hst : Stp F ι ι' K K' s.heap s'.heap w w')
    (htl' : TL P F ι' K' s'.heap w' l σ' s'.tmps (fun d => a'.tmps.getD d undef) ks' xs O' fz') (hn' : (ks' ++ xs).Nodup) (hlive : ∀ b x, look (kills xs ++ (kills ks ++ s.heap)) b = some x → look s'.heap b = some x ∧ b ∉ ks')
    (hlen : s'.tmps.length = s.tmps.length) (hvals : ∀ d, d ∉ l.map (·.1) → d ∉ ds → a'.tmps.getD d undef = a.tmps.getD d undef) :
    ∃ ι2 K2, On P F ι2 K2 (putLoop l σ' (headSt s l ds ks)) a' w' ∧ Stp F ι ι2 K K2 s.heap (putLoop l σ' (headSt s l ds ks)).heap w w' ∧ ∀ b, K2 b → b < (putLoop l σ' (headSt s l ds ks)).next := by
  have hI' := hon'.inv
  obtain ⟨hkn, hxn, hkx⟩ := List.nodup_append.1 hn'
  have hpls := tl_pls htl'
  have hOn := hpls.nodup hI'.pl hkn
  have hkeep : ∀ p ∈ l, getT (headSt s l ds ks).tmps p.1 = getT s.tmps p.1 := fun p hp => getT_undefs _ _ _ _ fun _ => List.mem_map.2 ⟨p, hp, rfl⟩
  have hstay : ∀ p ∈ l, p.2.stays = true → getT (headSt s l ds ks).tmps p.1 = getT s'.tmps p.1 := fun p hp hs => (hkeep p hp).trans (tl_stays htl htl' p hp hs)
  have hlk0 : ∀ b x, look (kills xs ++ (kills ks ++ s.heap)) b = some x → look s.heap b = some x ∧ b ∉ xs ∧ b ∉ ks := by
    intro b x hb
    rw [look_kills] at hb
    split at hb
    · simp at hb
    · rw [look_kills] at hb
      split at hb
      · simp at hb
      · exact ⟨hb, by assumption, by assumption⟩
  have hk' : ∀ b, K b → ι' b = ι b := fun b hb => (hst.known b hb).2
  let T : Nat → Prop := RegX F ι' s'.heap w' fz'
  have hT0 : ∀ c, Reg F ι s.heap w c → T c := fun c hc => .inl (hst.reg c hc).1
  let s2 : St := { headSt s l ds ks with heap := kills xs ++ (kills ks ++ s.heap) }
  have hown0 : ∀ c, Own ι s2.heap c → ∃ b, b ∉ ks' ∧ b ∉ xs ∧ Pl ι' s'.heap b c := by
    rintro c ⟨b, x, hb, hr, hc⟩
    obtain ⟨h1, h2, h3⟩ := hlk0 b x hb
    obtain ⟨h4, h5⟩ := hlive b x hb
    have hi := hk' b (hon.inv.known b x h1)
    exact ⟨b, h5, h2, ⟨x, h4⟩, by rw [hi]; exact hr, by rw [hi]; exact hc⟩
  have hI2 : InvR P F ι K s2.heap w' T := by
    refine ⟨hI'.same, hI'.lent, hI'.keep, fun b x hb => hon.inv.known b x (hlk0 b x hb).1, fun b x hb => ?_, fun b x hb => hon.inv.mine b x (hlk0 b x hb).1, fun b b' x x' hb hb' => hon.inv.inj b b' x x' (hlk0 b x hb).1 (hlk0 b' x' hb').1⟩
    obtain ⟨h1, h2, h3⟩ := hlk0 b x hb
    obtain ⟨h4, h5⟩ := hlive b x hb
    have hblk := hI'.blks b x h4
    rw [hk' b (hon.inv.known b x h1)] at hblk
    exact (hon.inv.blks b x h1).back hk' hblk fun c hc => .inl hc
  refine Exists.elim (putLoop_ok hI' (s := s2) htl' hI2 (fun c hc => hc) (fun c hc => ?_) hOn (fun b hb => ?_) hxn hK hnd hstay (fun d hd => ?_)) fun ι2 hmain => ?main
  case main =>
    obtain ⟨K2, hp, hsl⟩ := hmain
    have htwo := putLoop_two (s1 := headSt s l ds ks) (s2 := s2) htl' hnd hstay rfl rfl
    obtain ⟨h1, h2, _, h4⟩ := htwo
    have hlook : ∀ b, look (putLoop l σ' (headSt s l ds ks)).heap b = look (putLoop l σ' s2).heap b := fun b => h4 b (by
      by_cases hb : b ∈ xs
      · exact .inl hb
      · refine .inr ?_
        show look (kills ks ++ s.heap) b = look (kills xs ++ (kills ks ++ s.heap)) b
        rw [look_kills xs, if_neg hb])
    have hreg : ∀ c, T c → Reg F ι2 (putLoop l σ' s2).heap w' c := by
      intro c hc
      have hno : ∀ b0, (b0 ∈ fz' ∨ (∀ x, look s'.heap b0 ≠ some x)) → True := fun _ _ => trivial
      rcases hc with hc | ⟨b, hb, x, hx, hr, e⟩
      · refine ⟨hc.1, hc.2.1, fun ho => hc.2.2 ?_⟩
        rcases hp.own c ho with h | h | ⟨b, hb, hr, e⟩
        · obtain ⟨b, _, _, ⟨x, hx⟩, hr, e⟩ := hown0 c h
          exact ⟨b, x, hx, hr, e⟩
        · obtain ⟨b, _, ⟨x, hx⟩, hr, e⟩ := hpls.of c h
          exact ⟨b, x, hx, hr, e⟩
        · obtain ⟨x, hx⟩ := tl_live htl' b hb
          exact ⟨b, x, hx, hr, e⟩
      · have hm := hI'.mine b x hx hr
        have hlt := hI'.exists hx hr
        rw [e] at hm hlt
        refine ⟨.inr hm, hlt, fun ho => ?_⟩
        have hpl : Pl ι' s'.heap b c := ⟨⟨x, hx⟩, hr, e⟩
        rcases hp.own c ho with h | h | ⟨b2, hb2, hr2, e2⟩
        · obtain ⟨b2, hn2, _, hpl2⟩ := hown0 c h
          exact hn2 (hI'.pl _ _ c hpl hpl2 ▸ hpls.sub b hb)
        · obtain ⟨b2, _, hn2, hpl2⟩ := hpls.apart hkn c h
          exact hn2 (hI'.pl _ _ c hpl hpl2 ▸ hb)
        · obtain ⟨x2, hx2⟩ := tl_live htl' b2 hb2
          have := hI'.pl _ _ c hpl ⟨⟨x2, hx2⟩, hr2, e2⟩
          exact hkx b (hpls.sub b hb) b2 hb2 this
    have hinv : Inv P F ι2 K2 (putLoop l σ' s2).heap w' := hp.inv.inv hreg
    refine ⟨ι2, K2, ⟨(hinv.invR.look hlook).inv fun c hc => (reg_look hlook).2 hc, ⟨?_, fun t => ?_⟩, hon'.none⟩, ⟨hp.known, fun c hc => ?_, hst.size⟩, fun b hb => ?_⟩
    · rw [putLoop_length]
      show (undefs s.tmps _ ds).length = _
      rw [undefs_length, ← hlen]
      exact hon'.slots.1
    · rw [h1]
      exact (hsl t).mono (fun _ h => ⟨h, rfl⟩) (fun c hc => ⟨(reg_look hlook).2 (hreg c hc), rfl⟩) (Nat.le_refl _)
    · exact ⟨(reg_look hlook).2 (hreg c (hT0 c hc)), (hst.reg c hc).2⟩
    · rw [h2]; exact hp.under b hb
  · obtain ⟨b, hb, hpl⟩ := hpls.of c hc
    obtain ⟨⟨x, hx⟩, hr, e⟩ := hpl
    refine ⟨fun ho => ?_, e ▸ hI'.mine b x hx hr⟩
    obtain ⟨b2, hn2, _, hpl2⟩ := hown0 c ho
    exact hn2 (hI'.pl _ _ c ⟨⟨x, hx⟩, hr, e⟩ hpl2 ▸ hb)
  · obtain ⟨x, hx⟩ := tl_live htl b hb
    obtain ⟨x', hx'⟩ := tl_live htl' b hb
    have hKb := hon.inv.known b x hx
    refine ⟨hKb, (hk' b hKb).symm, ?_, fun hr => ⟨fun ho => ?_, fun hc => ?_⟩⟩
    · show look (kills xs ++ _) b = none
      rw [look_kills, if_pos hb]
    · obtain ⟨b2, _, hn2, hpl2⟩ := hown0 _ ho
      exact hn2 (hI'.pl _ _ _ ⟨⟨x', hx'⟩, hr, rfl⟩ hpl2 ▸ hb)
    · obtain ⟨b2, hb2, hpl2⟩ := hpls.of _ hc
      exact hkx b2 hb2 b hb (hI'.pl _ _ _ hpl2 ⟨⟨x', hx'⟩, hr, rfl⟩)
  · show AVR P ι K w' T (getT (undefs s.tmps (l.map (·.1)) ds) d) (a'.tmps.getD d undef)
    by_cases hds : d ∈ ds
    · rw [getT_undefs_gone ds s.tmps _ d hd (.inl hds)]
      exact ⟨[_], by unfold AVC; exact ⟨_, rfl⟩, rfl⟩
    · rw [getT_undefs ds s.tmps _ d (fun h => absurd h hds), hvals d hd hds]
      exact (hon.slots.2 d).mono (fun _ h => ⟨h, rfl⟩) (fun c hc => ⟨hT0 c hc, (hst.reg c hc).2⟩) hst.size

end
end Go.Tm

namespace Go.Tm
open Go

section
variable {E : Env} {F : Fr}

/-- what follows where a piece of code has come to an end -/
def Goes (E : Env) (F : Fr) {A : Type} (z : A) (ds : List Nat) (s : St) (ι : Nat → Inf) (K : Nat → Prop) (a : Act) (w : World) (k : St → Option A) (R : Act → World → Prop) : Prop :=
  ∀ s' ι' K' a' w', k s' = some z → On E.P F ι' K' s' a' w' → Stp F ι ι' K K' s.heap s'.heap w w' → Agree ds s s' a a' → (∀ b, K' b → b < s'.next) → R a' w'

theorem Goes.after {A : Type} {z : A} {ds ds' : List Nat} {s s1 : St} {ι ι1 : Nat → Inf} {K K1 : Nat → Prop} {a a1 : Act} {w w1 : World} {k : St → Option A} {R : Act → World → Prop} (h : Goes E F z ds s ι K a w k R)
    (hs : Stp F ι ι1 K K1 s.heap s1.heap w w1) (ha : Agree ds s s1 a a1) (hd : ∀ d ∈ ds', d ∈ ds) : Goes E F z ds' s1 ι1 K1 a1 w1 k R :=
  fun s' ι' K' a' w' hk ho hs' ha' hK => h s' ι' K' a' w' hk ho (hs.trans hs') (ha.trans (ha'.mono hd)) hK
theorem Goes.mono {A : Type} {z : A} {ds ds' : List Nat} {s : St} {ι : Nat → Inf} {K : Nat → Prop} {a : Act} {w : World} {k : St → Option A} {R : Act → World → Prop} (h : Goes E F z ds s ι K a w k R)
    (hd : ∀ d ∈ ds', d ∈ ds) : Goes E F z ds' s ι K a w k R := h.after (Stp.refl ..) (Agree.refl ..) hd

theorem iter_of_run {σ A : Type} {f : σ → Option (σ ⊕ A)} {s : σ} {r : A} (h : run f s = some r) : ∃ n, iter f n s = some r := by
  unfold run at h
  split at h
  · rename_i hx
    simp only [Option.some.injEq] at h
    obtain ⟨n, hn⟩ := Classical.choose_spec hx
    exact ⟨n, h ▸ hn⟩
  · simp at h

theorem bif_some {A : Type} {c : Bool} {x : Option A} {z : A} (h : (bif c then x else none) = some z) : c = true ∧ x = some z := by
  cases c with
  | false => simp at h
  | true => exact ⟨rfl, h⟩

theorem sameN_eq : ∀ {a b : List Nat}, sameN a b = true → a = b
  | [], [], _ => rfl
  | a :: r, b :: s, h => by
    simp only [sameN, Bool.and_eq_true] at h
    rw [Nat.eq_of_beq_eq_true h.1, sameN_eq h.2]
  | [], _ :: _, h => by simp [sameN] at h
  | _ :: _, [], h => by simp [sameN] at h

/-- what a run of code says -/
def EvOK (E : Env) (F : Fr) (anns : List (Nat × LA)) (c : Code) : Prop :=
  ∀ {A : Type} {z : A} {s : St} {ι : Nat → Inf} {K : Nat → Prop} {a : Act} {w : World} {kn : St → Option A} {ke : Nat → St → Option A} {kr : St → Option A} {Q : Exit → Act → World → Prop},
    ev E anns c s kn ke kr = some z → On E.P F ι K s a w → (∀ b, K b → b < s.next) → Goes E F z (dsts c) s ι K a w kn (Q .normal) → (∀ i, Goes E F z (dsts c) s ι K a w (ke i) (Q (.exit i))) → Goes E F z (dsts c) s ι K a w kr (Q .ret) → c.wp E.P Q a w

theorem ev_unroll {anns : List (Nat × LA)} {b : Code} (ih : EvOK E F anns b) {A : Type} {z : A} {ke : Nat → St → Option A} {kr : St → Option A} {Q : Exit → Act → World → Prop} : ∀ {n : Nat} {s : St} {ι : Nat → Inf} {K : Nat → Prop} {a : Act} {w : World},
    unr (fun s' kn' => ev E anns b s' kn' ke kr) n s = some z → On E.P F ι K s a w → (∀ b, K b → b < s.next) → (∀ i, Goes E F z (dsts b) s ι K a w (ke i) (Q (.exit i))) → Goes E F z (dsts b) s ι K a w kr (Q .ret) → Code.rounds E.P b Q n a w
  | 0, _, _, _, _, _, h, _, _, _, _ => by simp [unr] at h
  | n + 1, s, ι, K, a, w, h, hon, hK, he, hr => by
    rw [rounds_succ]
    unfold unr at h
    refine ih h hon hK ?_ (fun i => he i) hr
    intro s' ι' K' a' w' hk ho hs ha hK'
    exact ev_unroll ih hk ho hK' (fun i => (he i).after hs ha fun _ h => h) (hr.after hs ha fun _ h => h)

/-- rounds of a loop whose state is told -/
theorem ev_vary {anns : List (Nat × LA)} {b : Code} (ih : EvOK E F anns b) {A : Type} {z : A} {ke : Nat → St → Option A} {kr : St → Option A} {Q : Exit → Act → World → Prop} {l : Ann} {s : St} {ι : Nat → Inf} {K : Nat → Prop} {a : Act} {w : World} {σ0 : lden l} {ks xs O fz : List Nat}
    (hon : On E.P F ι K s a w) (hK : ∀ b, K b → b < s.next) (htl : TL E.P F ι K s.heap w l σ0 s.tmps (fun d => a.tmps.getD d undef) ks xs O fz) (hnx : (ks ++ xs).Nodup) (hnd : (l.map (·.1)).Nodup) (hin : ∀ p ∈ l, p.2.stays = false → p.1 ∈ dsts b)
    (he : ∀ i, Goes E F z (dsts b) s ι K a w (ke i) (Q (.exit i))) (hr : Goes E F z (dsts b) s ι K a w kr (Q .ret))
    {f : lden l → Option (lden l ⊕ A)} (hf : ∀ σ, f σ = ev E anns b (putLoop l σ (headSt s l (dsts b) ks))
      (fun s' => takeLoop s' l fun σ' ks' xs' => bif sameN xs xs' && nodupN (ks' ++ xs') && (ks'.all fun d => Nat.ble s.next d) && (s'.dirty.all fun d => memN xs d || Nat.ble s.next d) then some (.inl σ') else none)
      (fun i s' => (ke i { s' with dirty := s'.dirty ++ (ks ++ xs) ++ s.dirty }).map .inr)
      (fun s' => (kr { s' with dirty := s'.dirty ++ (ks ++ xs) ++ s.dirty }).map .inr)) :
    ∀ (n : Nat) (σ : lden l) (s' : St) (ι' : Nat → Inf) (K' : Nat → Prop) (a' : Act) (w' : World) (ks' O' fz' : List Nat), iter f n σ = some z → On E.P F ι' K' s' a' w' → Stp F ι ι' K K' s.heap s'.heap w w' →
      TL E.P F ι' K' s'.heap w' l σ s'.tmps (fun d => a'.tmps.getD d undef) ks' xs O' fz' → (ks' ++ xs).Nodup → (∀ b x, look (kills xs ++ (kills ks ++ s.heap)) b = some x → look s'.heap b = some x ∧ b ∉ ks') → s'.tmps.length = s.tmps.length →
      (∀ d, d ∉ dsts b → a'.tmps.getD d undef = a.tmps.getD d undef) → Code.rounds E.P b Q n a' w'
  | 0, _, _, _, _, _, _, _, _, _, h, _, _, _, _, _, _, _ => by simp [iter] at h
  | n + 1, σ, s1, ι1, K1, a1, w1, ks1, O1, fz1, h, hon1, hst1, htl1, hn1, hlive1, hlen1, hvals1 => by
    rw [rounds_succ]
    have hstay1 : ∀ p ∈ l, p.2.stays = true → getT (headSt s l (dsts b) ks).tmps p.1 = getT s1.tmps p.1 := fun p hp hs =>
      (getT_undefs _ _ _ _ fun _ => List.mem_map.2 ⟨p, hp, rfl⟩).trans (tl_stays htl htl1 p hp hs)
    obtain ⟨ι2, K2, hon2, hst2, hK2⟩ := head_ok (ds := dsts b) hon hK htl hnd hon1 hst1 htl1 hn1 hlive1 hlen1 fun d _ hd => hvals1 d hd
    have hnext := putLoop_next l σ (headSt s l (dsts b) ks)
    have hnext : s.next ≤ (putLoop l σ (headSt s l (dsts b) ks)).next := hnext
    have hdirty2 : (putLoop l σ (headSt s l (dsts b) ks)).dirty = [] := putLoop_dirty l σ _
    have hlen2 : (putLoop l σ (headSt s l (dsts b) ks)).tmps.length = s.tmps.length := by
      rw [putLoop_length]; exact undefs_length _ _ _
    have hheap2 : ∀ b0, b0 < s.next → b0 ∉ xs → b0 ∉ ks → look (putLoop l σ (headSt s l (dsts b) ks)).heap b0 = look s.heap b0 := by
      intro b0 h1 h2 h3
      refine (putLoop_heap htl1 hnd hstay1 h1 h2).trans ?_
      show look (kills ks ++ s.heap) b0 = _
      rw [look_kills, if_neg h3]
    have hag : ∀ {s' : St} {a' : Act}, Agree (dsts b) (putLoop l σ (headSt s l (dsts b) ks)) s' a1 a' → Agree (dsts b) s { s' with dirty := s'.dirty ++ (ks ++ xs) ++ s.dirty } a a' := by
      intro s' a' ha
      refine ⟨fun d hd => ?_, fun d hd => (ha.vals d hd).trans (hvals1 d hd), ha.length.trans hlen2, Nat.le_trans hnext ha.next, fun b0 hb => List.mem_append_right _ hb, fun b0 hb hn => ?_⟩
      · refine (ha.slots d hd).trans ((putLoop_slot l σ _ d fun p hp hs e => hd (e ▸ hin p hp hs)).trans ?_)
        exact getT_undefs _ _ _ _ fun h => absurd h hd
      · have hn1 : b0 ∉ s'.dirty := fun h => hn (List.mem_append_left _ (List.mem_append_left _ h))
        have hn2 : b0 ∉ ks := fun h => hn (List.mem_append_left _ (List.mem_append_right _ (List.mem_append_left _ h)))
        have hn3 : b0 ∉ xs := fun h => hn (List.mem_append_left _ (List.mem_append_right _ (List.mem_append_right _ h)))
        exact (ha.heap b0 (Nat.lt_of_lt_of_le hb hnext) hn1).trans (hheap2 b0 hb hn3 hn2)
    have hon' : ∀ {s' : St} {ι' : Nat → Inf} {K' : Nat → Prop} {a' : Act} {w' : World} {ds : List Nat}, On E.P F ι' K' s' a' w' → On E.P F ι' K' { s' with dirty := ds } a' w' := fun h => ⟨h.inv, h.slots, h.none⟩
    simp only [iter] at h
    cases hfs : f σ with
    | none => rw [hfs] at h; simp at h
    | some r =>
      rw [hfs] at h
      rw [hf] at hfs
      cases r with
      | inr r =>
        simp only [Option.some.injEq] at h
        subst h
        refine ih hfs hon2 hK2 ?_ (fun i => ?_) ?_
        · intro s' ι' K' a' w' hk ho hs ha hK'
          obtain ⟨σ', ks', xs', O', fz', h1, _⟩ := takeLoop_ok ho hk
          cases hc : (sameN xs xs' && nodupN (ks' ++ xs') && (ks'.all fun d => Nat.ble s.next d) && (s'.dirty.all fun d => memN xs d || Nat.ble s.next d)) <;> rw [hc] at h1 <;> simp at h1
        · intro s' ι' K' a' w' hk ho hs ha hK'
          simp only [Option.map_eq_some_iff, Sum.inr.injEq, exists_eq_right] at hk
          exact he i _ ι' K' a' w' hk (hon' ho) (hst2.trans hs) (hag ha) hK'
        · intro s' ι' K' a' w' hk ho hs ha hK'
          simp only [Option.map_eq_some_iff, Sum.inr.injEq, exists_eq_right] at hk
          exact hr _ ι' K' a' w' hk (hon' ho) (hst2.trans hs) (hag ha) hK'
      | inl σ1 =>
        simp only at h
        refine ih hfs hon2 hK2 ?_ (fun i => ?_) ?_
        · intro s' ι' K' a' w' hk ho hs ha hK'
          obtain ⟨σ', ks', xs', O', fz', h1, htl'⟩ := takeLoop_ok ho hk
          cases hc : (sameN xs xs' && nodupN (ks' ++ xs') && (ks'.all fun d => Nat.ble s.next d) && (s'.dirty.all fun d => memN xs d || Nat.ble s.next d)) with
          | false => rw [hc] at h1; simp at h1
          | true =>
            rw [hc] at h1
            simp only [cond_true, Option.some.injEq, Sum.inl.injEq] at h1
            subst h1
            simp only [Bool.and_eq_true, List.all_eq_true, Bool.or_eq_true, Nat.ble_eq] at hc
            obtain ⟨⟨⟨c1, c2⟩, c3⟩, c4⟩ := hc
            obtain rfl := sameN_eq c1
            refine ev_vary ih hon hK htl hnx hnd hin he hr hf n σ' s' ι' K' a' w' ks' O' fz' h ho (hst2.trans hs) htl' (nodupN_iff.1 c2) (fun b0 x hb => ?_) (ha.length.trans hlen2) (fun d hd => (ha.vals d hd).trans (hvals1 d hd))
            rw [look_kills] at hb
            split at hb
            · simp at hb
            · rename_i hx
              rw [look_kills] at hb
              split at hb
              · simp at hb
              · rename_i hk0
                have hlt := hK b0 (hon.inv.known b0 x hb)
                refine ⟨?_, fun hm => ?_⟩
                · rw [ha.heap b0 (Nat.lt_of_lt_of_le hlt hnext) (fun hm => ?_), hheap2 b0 hlt hx hk0]
                  · exact hb
                  · rcases c4 b0 hm with h5 | h5
                    · exact hx (memN_iff.1 h5)
                    · omega
                · have := c3 b0 hm
                  omega
        · intro s' ι' K' a' w' hk ho hs ha hK'
          simp at hk
        · intro s' ι' K' a' w' hk ho hs ha hK'
          simp at hk

theorem ev_sound (hE : EnvS E F) (anns : List (Nat × LA)) : ∀ c : Code, EvOK E F anns c := by
  intro c
  induction c with
  | skip =>
    intro A z s ι K a w kn ke kr Q h hon hK hn he hr
    exact wp_skip (hn s ι K a w h hon (Stp.refl ..) (Agree.refl ..) hK)
  | label _ =>
    intro A z s ι K a w kn ke kr Q h hon hK hn he hr
    exact wp_label (hn s ι K a w h hon (Stp.refl ..) (Agree.refl ..) hK)
  | region id ops d =>
    intro A z s ι K a w kn ke kr Q h hon hK hn he hr
    refine region_ok hE h hon hK fun s' ι' K' a' w' hk ho hs ha hK' => hn s' ι' K' a' w' hk ho hs (ha.mono fun d hd => ?_) hK'
    simpa [dsts] using hd
  | seq x y ihx ihy =>
    intro A z s ι K a w kn ke kr Q h hon hK hn he hr
    have hx : ∀ d ∈ dsts x, d ∈ dsts (.seq x y) := fun d hd => List.mem_append_left _ hd
    have hy : ∀ d ∈ dsts y, d ∈ dsts (.seq x y) := fun d hd => List.mem_append_right _ hd
    refine wp_seq (ihx (Q := Exit.then (y.wp E.P Q) Q) h hon hK ?_ (fun i => (he i).mono hx) (hr.mono hx))
    intro s' ι' K' a' w' hk ho hs ha hK'
    exact ihy hk ho hK' (hn.after hs (ha.mono hx) hy) (fun i => (he i).after hs (ha.mono hx) hy) (hr.after hs (ha.mono hx) hy)
  | cond o x y ihx ihy =>
    intro A z s ι K a w kn ke kr Q h hon hK hn he hr
    have hx : ∀ d ∈ dsts x, d ∈ dsts (.cond o x y) := fun d hd => List.mem_append_left _ hd
    have hy : ∀ d ∈ dsts y, d ∈ dsts (.cond o x y) := fun d hd => List.mem_append_right _ hd
    simp only [ev] at h
    split at h
    · rename_i b hb
      have hv := rd_ok hon.slots o
      rw [hb] at hv
      have hv : a.eval o = .bool b := vrep_bool.1 (avr_val.1 hv)
      cases b with
      | true => exact wp_cond_true hv (ihx h hon hK (hn.mono hx) (fun i => (he i).mono hx) (hr.mono hx))
      | false => exact wp_cond_false hv (ihy h hon hK (hn.mono hy) (fun i => (he i).mono hy) (hr.mono hy))
    · simp at h
  | block id b ih =>
    intro A z s ι K a w kn ke kr Q h hon hK hn he hr
    refine wp_block (ih (Q := Exit.inBlock id Q) h hon hK hn (fun i => ?_) hr)
    intro s' ι' K' a' w' hk ho hs ha hK'
    show if i = id then Q .normal a' w' else Q (.exit i) a' w'
    split
    · rename_i e
      subst e
      rw [Nat.beq_refl] at hk
      exact hn s' ι' K' a' w' hk ho hs ha hK'
    · rename_i e
      rw [beq_no e] at hk
      exact he i s' ι' K' a' w' hk ho hs ha hK'
  | exit id =>
    intro A z s ι K a w kn ke kr Q h hon hK hn he hr
    exact wp_exit (he id s ι K a w h hon (Stp.refl ..) (Agree.refl ..) hK)
  | ret =>
    intro A z s ι K a w kn ke kr Q h hon hK hn he hr
    exact wp_ret (hr s ι K a w h hon (Stp.refl ..) (Agree.refl ..) hK)
  | loop b ih =>
    intro A z s ι K a w kn ke kr Q h hon hK hn he hr
    simp only [ev] at h
    split at h
    · simp at h
    · rename_i n _
      exact wp_loop_rounds n (ev_unroll ih h hon hK he hr)
    · rename_i l _
      obtain ⟨σ0, ks, xs, O, fz, h1, htl⟩ := takeLoop_ok hon h
      obtain ⟨hc, h1⟩ := bif_some h1
      simp only [Bool.and_eq_true, List.all_eq_true] at hc
      obtain ⟨⟨c1, c2⟩, c3⟩ := hc
      obtain ⟨n, hit⟩ := iter_of_run h1
      refine wp_loop_rounds n (ev_vary ih hon hK htl (nodupN_iff.1 c1) (nodupN_iff.1 c2) (fun p hp hs => ?_) he hr (fun _ => rfl) n σ0 s ι K a w ks O fz hit hon (Stp.refl ..) htl (nodupN_iff.1 c1) (fun b0 x hb => ?_) rfl (fun _ _ => rfl))
      · have := c3 p hp
        obtain ⟨d, k⟩ := p
        cases k <;> first | exact memN_iff.1 this | simp [LK.stays] at hs
      · rw [look_kills] at hb
        split at hb
        · simp at hb
        · rw [look_kills] at hb
          split at hb
          · simp at hb
          · exact ⟨hb, by assumption⟩
  | _ =>
    intro A z s ι K a w kn ke kr Q h
    simp [ev] at h

end
end Go.Tm

namespace Go.Tm
open Go

section
variable {P : Program} {F : Fr} {w : World} {T : Nat → Prop}

theorem argsIn_le : ∀ (ps : List PK) (x : domOf ps) (n : Nat), n ≤ (argsIn ps x n).2.2
  | [], _, n => Nat.le_refl n
  | .v _ :: ps, x, n => argsIn_le ps x.2 n
  | .ro _ :: ps, x, n => argsIn_le ps x.2 n
  | .fn _ :: ps, x, n => argsIn_le ps x.2 n
  | .io s :: ps, x, n => Nat.le_trans (Nat.le_trans (Nat.le_succ n) (putSh_le s x.1 (n + 1))) (argsIn_le ps x.2 _)
  | .mv s :: ps, x, n => Nat.le_trans (putSh_le s x.1 n) (argsIn_le ps x.2 _)

/-- the arguments of a call, laid -/
theorem argsIn_ok : ∀ {ps : List PK} {x : domOf ps} {n : Nat} {args : List Value} {O : List Nat} {ι : Nat → Inf} {K : Nat → Prop} {H : Heap}, InvR P F ι K H w T → ArgsRep P w T ps x args O → (∀ c ∈ O, ¬ Own ι H c ∧ (F.O0 c ∨ F.w0.heap.size ≤ c)) → O.Nodup →
    (∀ b, n ≤ b → b < (argsIn ps x n).2.2 → ¬ K b) → ∃ ι' K', Laid P F ι ι' K K' H ((argsIn ps x n).2.1 ++ H) w T O n (argsIn ps x n).2.2 ∧ AVCs P ι' K' w T (argsIn ps x n).1 args
  | [], x, n, args, O, ι, K, H, hI, ⟨h1, h2⟩, _, _, _ => by
    subst h1 h2
    exact ⟨ι, K, ⟨hI, fun b hb => ⟨hb, rfl⟩, fun b hb => .inl hb, fun c hc => .inl hc⟩, by simp [argsIn, AVCs]⟩
  | .v t :: ps, x, n, args, O, ι, K, H, hI, ⟨v, us, e, ⟨cs, hr, hv⟩, ha⟩, hO, hnd, hn => by
    subst e
    obtain ⟨ι', K', L, hs⟩ := argsIn_ok (x := x.2) (n := n) hI ha hO hnd hn
    refine ⟨ι', K', L, ?_⟩
    show AVCs P ι' K' w T (.val t x.1 :: _) _
    simp only [AVCs, AVC]
    exact ⟨v, us, cs, rfl, hr, hv, hs⟩
  | .ro t :: ps, x, n, args, O, ι, K, H, hI, ⟨c, o, cs, us, e, hc, hat, hr, ha⟩, hO, hnd, hn => by
    subst e
    obtain ⟨ι', K', L, hs⟩ := argsIn_ok (x := x.2) (n := n) hI ha hO hnd hn
    refine ⟨ι', K', L, ?_⟩
    show AVCs P ι' K' w T (.iptr t x.1 :: _) _
    simp only [AVCs, AVC]
    exact ⟨_, us, _, rfl, ⟨c, o, cs, rfl, hc, hat, hr⟩, rfl, hs⟩
  | .fn s :: ps, x, n, args, O, ι, K, H, hI, ⟨v, us, e, hf, ha⟩, hO, hnd, hn => by
    subst e
    obtain ⟨ι', K', L, hs⟩ := argsIn_ok (x := x.2) (n := n) hI ha hO hnd hn
    refine ⟨ι', K', L, ?_⟩
    show AVCs P ι' K' w T (.fun s x.1 :: _) _
    simp only [AVCs, AVC]
    exact ⟨v, us, _, rfl, ⟨v, rfl, hf⟩, rfl, hs⟩
  | .mv s :: ps, x, n, args, O, ι, K, H, hI, ⟨v, us, cs, O1, O2, e, hval, hsh, hOe, ha⟩, hO, hnd, hn => by
    subst e hOe
    obtain ⟨hnd1, hnd2, hdis⟩ := List.nodup_append.1 hnd
    have hle1 := putSh_le s x.1 n
    have hle2 := argsIn_le ps x.2 (putSh s x.1 n).2.2
    have hn : ∀ b, n ≤ b → b < (argsIn ps x.2 (putSh s x.1 n).2.2).2.2 → ¬ K b := hn
    obtain ⟨ι1, K1, L1, hs1⟩ := argsIn_ok (x := x.2) (n := (putSh s x.1 n).2.2) hI ha (fun c hc => hO c (by simp [hc])) hnd2 (fun b h1 h2 => hn b (by omega) h2)
    obtain ⟨ι2, K2, L2, hv2, hf2⟩ := putSh_ok (n := n) L1.inv hsh (fun c hc => ⟨fun ho => by
        rcases L1.own c ho with ho | ho
        · exact (hO c (by simp [hc])).1 ho
        · exact hdis c hc c ho rfl, (hO c (by simp [hc])).2⟩) hnd1 (fun b h1 h2 hk => by
        rcases L1.news b hk with h | h
        · exact hn b h1 (by omega) h
        · omega)
    refine ⟨ι2, K2, ?_, ?_⟩
    · have := L1.trans L2 (Nat.le_refl n) hle1 hle2
      rw [← List.append_assoc] at this
      exact this
    · show AVCs P ι2 K2 w T ((putSh s x.1 n).1 :: _) _
      simp only [AVCs]
      exact ⟨v, us, cs, rfl, hv2, by rw [fits_agg hf2]; exact hval, hs1.mono L2.known (fun c hc => ⟨hc, rfl⟩) (Nat.le_refl _)⟩
  | .io s :: ps, x, n, args, O, ι, K, H, hI, ⟨c, us, cells, e0, O1, O2, e, hbl, hlen, hone, hsh, hOe, ha⟩, hO, hnd, hn => by
    subst e hOe
    obtain ⟨hcn, hnd⟩ := List.nodup_cons.1 hnd
    obtain ⟨hnd1, hnd2, hdis⟩ := List.nodup_append.1 hnd
    have hle1 := putSh_le s x.1 (n + 1)
    have hle2 := argsIn_le ps x.2 (putSh s x.1 (n + 1)).2.2
    have hn : ∀ b, n ≤ b → b < (argsIn ps x.2 (putSh s x.1 (n + 1)).2.2).2.2 → ¬ K b := hn
    obtain ⟨ι1, K1, L1, hs1⟩ := argsIn_ok (x := x.2) (n := (putSh s x.1 (n + 1)).2.2) hI ha (fun c hc => hO c (by simp [hc])) hnd2 (fun b h1 h2 => hn b (by omega) h2)
    obtain ⟨ι2, K2, L2, hv2, hf2⟩ := putSh_ok (n := n + 1) L1.inv hsh (fun c hc => ⟨fun ho => by
        rcases L1.own c ho with ho | ho
        · exact (hO c (by simp [hc])).1 ho
        · exact hdis c hc c ho rfl, (hO c (by simp [hc])).2⟩) hnd1 (fun b h1 h2 hk => by
        rcases L1.news b hk with h | h
        · exact hn b (by omega) (by omega) h
        · omega)
    have hnK : ¬ K2 n := fun hk => by
      rcases L2.news n hk with h | h
      · rcases L1.news n h with h | h
        · exact hn n (Nat.le_refl _) (by omega) h
        · omega
      · omega
    have hlk : look ((putSh s x.1 (n + 1)).2.1 ++ ((argsIn ps x.2 (putSh s x.1 (n + 1)).2.2).2.1 ++ H)) n = none := by
      cases hx : look ((putSh s x.1 (n + 1)).2.1 ++ ((argsIn ps x.2 (putSh s x.1 (n + 1)).2.2).2.1 ++ H)) n with
      | none => rfl
      | some y => exact absurd (L2.inv.known n y hx) hnK
    have hoc : ¬ Own ι2 ((putSh s x.1 (n + 1)).2.1 ++ ((argsIn ps x.2 (putSh s x.1 (n + 1)).2.2).2.1 ++ H)) c := fun ho => by
      rcases L2.own c ho with ho | ho
      · rcases L1.own c ho with ho | ho
        · exact (hO c (by simp)).1 ho
        · exact hcn (by simp [ho])
      · exact hcn (by simp [ho])
    obtain ⟨g1, g2, g3⟩ := L2.inv.add hlk ⟨c, 0, .box s.ty⟩ (.inl hnK) (.box s.ty (putSh s x.1 (n + 1)).1) ⟨rfl, rfl, cells, e0, hbl, hv2.known (fun d hd => ⟨.inl hd, by
        have : d ≠ n := fun e => hnK (e ▸ hd)
        simp [upd, this]⟩), hlen, hone.put _ _, hf2⟩ (fun _ => ⟨hoc, (hO c (by simp)).2⟩)
    refine ⟨_, _, ⟨?_, fun d hd => ⟨(g2 d (L2.known d (L1.known d hd).1).1).1, (g2 d (L2.known d (L1.known d hd).1).1).2.trans ((L2.known d (L1.known d hd).1).2.trans (L1.known d hd).2)⟩, fun d hd => ?_, fun c' hc => ?_⟩, ?_⟩
    · have := g1
      rw [← List.append_assoc] at this
      exact this
    · show K d ∨ (n ≤ d ∧ d < (argsIn ps x.2 (putSh s x.1 (n + 1)).2.2).2.2)
      rcases hd with hd | hd
      · rcases L2.news d hd with h | h
        · rcases L1.news d h with h | h
          · exact .inl h
          · exact .inr ⟨by omega, by omega⟩
        · exact .inr ⟨by omega, by omega⟩
      · exact .inr ⟨by omega, by omega⟩
    · have hc : Own (upd ι2 n ⟨c, 0, .box s.ty⟩) ((n, some (.box s.ty (putSh s x.1 (n + 1)).1)) :: ((putSh s x.1 (n + 1)).2.1 ++ ((argsIn ps x.2 (putSh s x.1 (n + 1)).2.2).2.1 ++ H))) c' := by
        have := hc
        rw [← List.append_assoc]
        exact this
      rcases g3 c' hc with h | ⟨_, h⟩
      · rcases L2.own c' h with h | h
        · rcases L1.own c' h with h | h
          · exact .inl h
          · exact .inr (by simp [h])
        · exact .inr (by simp [h])
      · exact .inr (by simp [h])
    · show AVCs P _ _ w T (.ptr n [] s.ty :: _) _
      simp only [AVCs, AVC]
      refine ⟨.pointer (some ⟨c, 0, none⟩), us, _, rfl, ⟨?_, 0, ?_, rfl⟩, ?_, ?_⟩
      · first | exact .inr rfl | exact .inr trivial | simp
      · have : upd ι2 n ⟨c, 0, .box s.ty⟩ n = ⟨c, 0, .box s.ty⟩ := by simp [upd]
        rw [this]; exact .box (.here _)
      · have : upd ι2 n ⟨c, 0, .box s.ty⟩ n = ⟨c, 0, .box s.ty⟩ := by simp [upd]
        rw [this]; rfl
      · exact (hs1.mono L2.known (fun c hc => ⟨hc, rfl⟩) (Nat.le_refl _)).mono g2 (fun c hc => ⟨hc, rfl⟩) (Nat.le_refl _)

theorem avcs_slots {ι : Nat → Inf} {K : Nat → Prop} {S : Nat → Prop} (k : Nat) : ∀ {vs : List AV} {xs : List Value}, AVCs P ι K w S vs xs → vs.length = xs.length ∧ ∀ t, AVR P ι K w S (getL vs t) ((xs ++ List.replicate k undef).getD t undef)
  | [], xs, h => by
    simp only [AVCs] at h
    subst h
    refine ⟨rfl, fun t => ?_⟩
    exact ⟨[_], by unfold getL AVC; exact ⟨_, rfl⟩, rfl⟩
  | v :: r, xs, h => by
    simp only [AVCs] at h
    obtain ⟨x, ys, cs, rfl, hc, hv, hr⟩ := h
    obtain ⟨h1, h2⟩ := avcs_slots k hr
    refine ⟨by simp [h1], fun t => ?_⟩
    cases t with
    | zero => exact ⟨cs, hc, hv⟩
    | succ t => exact h2 t

theorem koff_box_off {t u : Ty} {o : Nat} (h : KOff (.box t) [] o u) : o = 0 := by cases h with | box h => cases h; rfl

end

section
variable {E : Env} {F : Fr} {ι : Nat → Inf} {K : Nat → Prop} {s : St} {a : Act} {w : World} {A : Type} {z : A}

/-- what is read at a place -/
theorem loadR_ok (h : Inv E.P F ι K s.heap w) {u : Ty} {x : AV} {y : Value} (hx : AVR E.P ι K w (Reg F ι s.heap w) x y) {rs : List Nat} {Ψ : AV × Heap → List Nat → Prop} (hwp : (loadR u x).wp s.heap rs Ψ) :
    ∃ c o cs v' rs', y = .pointer (some ⟨c, o, none⟩) ∧ CellsAt w c o cs ∧ AVC E.P ι K w (Reg F ι s.heap w) v' cs ∧ fitsB u v' = true ∧ Ψ (v', []) rs' := by
  unfold loadR at hwp
  split at hwp
  · rename_i b p u'
    obtain ⟨cs0, hc, hv⟩ := hx
    simp only [AVC] at hc
    obtain ⟨hK, of, hko, rfl⟩ := hc
    have hp := valof_one (show ValOf false _ y from hv)
    simp only [RM.wp] at hwp
    obtain ⟨blk, hb, hwp⟩ := hwp
    have hblk := h.blks b _ hb
    cases blk with
    | box t' v' =>
      obtain ⟨hk, hd, cells, e, hbb, hvv, hlen, hat, hf⟩ := box_cells hblk
      rw [hk] at hko
      cases hko with
      | box hto =>
      simp only at hwp
      obtain ⟨v2, h2, hf2, hv2⟩ := getAV_ok hto hwp hf hvv
      cases hf3 : fitsB u v2 with
      | false => rw [hf3] at h2; exact h2.elim
      | true =>
        rw [hf3] at h2
        rw [hd] at hp
        exact ⟨_, _, _, v2, _, hp, hat.seg of u'.size, hv2, hf3, h2⟩
    | row t' xs =>
      rcases hblk with ⟨hk', _⟩ | hblk'
      · rw [hk'] at hko; cases hko
      · obtain ⟨room', _, _, _, hk', _⟩ := id hblk'
        rw [hk'] at hko
        cases hko with
        | @row _ _ _ i p' o' _ hi hto =>
        obtain ⟨_, cells, e, vs, hbb, h1, h2, h3, hvl, h4, hat⟩ := row_cells (h.blks b _ hb) hk'
        simp only [getPath] at hwp
        have hg := RepList.getD (R := Rep w (Reg F ι s.heap w) t') (fun _ _ h => h.length) t'.zero h3 hi
        obtain ⟨y', hy, hr⟩ := getPath_ok hto hwp hg
        cases hsm : u'.same u with
        | false => rw [hsm] at hy; exact hy.elim
        | true =>
          rw [hsm] at hy
          obtain rfl := same_eq hsm
          rw [seg_seg hto.inside] at hr
          have hat' := hat.seg (i * t'.size + o') u'.size
          exact ⟨_, _, _, _, _, hp, hat', by simp only [AVC]; exact hr, fits_self _ _, hy⟩
  · rename_i u' y'
    obtain ⟨cs0, hc, hv⟩ := hx
    simp only [AVC] at hc
    obtain ⟨c, of, vs, rfl, hreg, hat, hr⟩ := hc
    have hp := valof_one (show ValOf false _ y from hv)
    cases hsm : u'.same u with
    | false => rw [hsm] at hwp; exact hwp.elim
    | true =>
      rw [hsm] at hwp
      obtain rfl := same_eq hsm
      exact ⟨_, _, _, _, _, hp, hat, by simp only [AVC]; exact hr, fits_self _ _, hwp⟩
  · rename_i b p t' off n
    split at hwp
    · rename_i m w'
      cases hmn : Nat.beq m n with
      | false => rw [hmn] at hwp; exact hwp.elim
      | true =>
        obtain rfl := Nat.eq_of_beq_eq_true hmn
        rw [hmn] at hwp
        simp only [cond_true] at hwp
        obtain ⟨cs0, hc, hv⟩ := hx
        simp only [AVC] at hc
        obtain ⟨hK, a, rfl, hpos⟩ := hc
        have hp := valof_one (show ValOf false _ y from hv)
        obtain ⟨xs, vs, rfl, hq, hxl, hrep, hat, ha, _⟩ := view_elems h hwp hpos
        rw [ha] at hp
        have hat' : CellsAt w (ι b).c a.off vs := by have e : a.block = (ι b).c := congrArg Addr.block ha; rw [e] at hat; exact hat
        exact ⟨_, _, _, _, _, hp, hat', by simp only [AVC]; exact RepList.ofList _ hrep hxl, fits_self _ _, hq⟩
    · exact hwp.elim
  · exact hwp.elim

def resSem (a : Act) : ResultVar → Sem Value
  | .tmp t => pure (a.tmps.getD t undef)
  | .cell c t => do loadVar t (← asAddr (a.tmps.getD c undef))

theorem resVal_ok (hE : EnvS E F) (hon : On E.P F ι K s a w) {v : ResultVar} {x : AV} (h : resVal E s v = some x) : ∃ y, (resSem a v).run E.P w = .ok y w ∧ AVR E.P ι K w (Reg F ι s.heap w) x y := by
  cases v with
  | tmp t =>
    simp only [resVal, Option.some.injEq] at h
    subst h
    exact ⟨_, rfl, hon.slots.2 t⟩
  | cell c ty =>
    simp only [resVal] at h
    split at h
    · rename_i u hu
      have hw := RM.run_wp h
      obtain ⟨cb, o, cs, v', rs', hp, hat, hv, hf, hΨ⟩ := loadR_ok hon.inv (hon.slots.2 c) hw
      simp only [Option.some.injEq] at hΨ
      subst hΨ
      obtain ⟨y, hy, hval⟩ := run_loadVar_ok (hE.ok.tys ty u hu) w hat (fitsB_len hf hv)
      refine ⟨y, ?_, cs, hv, by rw [fits_agg hf]; exact hval⟩
      simp only [resSem, Sem.run_bind, hp]
      simpa [asAddr] using hy
    · simp at h

theorem resOut_ok (hE : EnvS E F) (hon : On E.P F ι K s a w) : ∀ {rs : List RK} {vs : List ResultVar} {k : resOf rs → List Nat → Option A}, resOut E s rs vs k = some z →
    ∃ y ks O fz ys, k y ks = some z ∧ Pls (Pl ι s.heap) ks O fz ∧ ResRep E.P w (RegX F ι s.heap w fz) rs y ys O ∧ (vs.mapM (resSem a)).run E.P w = .ok ys w
  | [], [], k, h => ⟨(), [], [], [], [], h, .nil, ⟨rfl, rfl⟩, rfl⟩
  | .v sh :: rs, v :: vs, k, h => by
    simp only [resOut] at h
    split at h
    · rename_i x hx
      obtain ⟨y0, hy0, cs, hc, hval⟩ := resVal_ok hE hon hx
      obtain ⟨y1, ts, rs', O1, fz1, h1, p1, s1, a1, _, _⟩ := takeSh_ok hon.inv (RM.run_wp h) hc
      simp only [RM.wp] at h1
      obtain ⟨y, ks, O, fz, ys, h2, p2, r2, hm⟩ := resOut_ok hE hon h1
      refine ⟨(y1, y), ts ++ ks, O1 ++ O, fz1 ++ fz, y0 :: ys, h2, p1.append p2, ⟨y0, ys, cs, O1, O, rfl, by rw [← a1]; exact hval, s1.regx (by simp +contextual), rfl, r2.imp fun _ _ _ _ _ hs => hs.regx (by simp +contextual)⟩, ?_⟩
      rw [List.mapM_cons, Sem.run_bind, hy0, Result.andThen_ok, Sem.run_bind, hm, Result.andThen_ok, Sem.run_pure]
    · simp at h
  | .p sh :: rs, v :: vs, k, h => by
    simp only [resOut] at h
    split at h
    · rename_i b u hx
      obtain ⟨y0, hy0, cs, hc, hval⟩ := resVal_ok hE hon hx
      simp only [AVC] at hc
      obtain ⟨hKb, o, hko, rfl⟩ := hc
      have hp0 := valof_one (show ValOf false _ y0 from hval)
      split at h
      · rename_i t c hlk
        cases hsm : sh.ty.same t with
        | false => rw [hsm] at h; simp at h
        | true =>
          rw [hsm] at h
          have hty := same_eq hsm
          subst hty
          simp only [cond_true] at h
          obtain ⟨hk, hd, cells, e, hbb, hvv, hlen, hone, hf⟩ := hon.inv.blks b _ hlk
          obtain ⟨y1, ts, rs', O1, fz1, h1, p1, s1, _, l1, _⟩ := takeSh_ok hon.inv (RM.run_wp h) hvv
          simp only [RM.wp] at h1
          obtain ⟨y, ks, O, fz, ys, h2, p2, r2, hm⟩ := resOut_ok hE hon h1
          rw [hk] at hko
          have ho := koff_box_off hko
          rw [ho, hd] at hp0
          refine ⟨(y1, y), b :: ts ++ ks, (ι b).c :: O1 ++ O, fz1 ++ fz, y0 :: ys, h2, .keep ⟨⟨_, hlk⟩, by rw [hk]; rfl, rfl⟩ (p1.append p2), ⟨(ι b).c, ys, cells, e, O1, O, by rw [hp0], hbb, hlen, ⟨hone.1, fun hq => hone.2.1 (takeSh_ref (RM.run_wp h) hq), hone.2.2⟩, s1.regx (by simp +contextual), rfl, r2.imp fun _ _ _ _ _ hs => hs.regx (by simp +contextual)⟩, ?_⟩
          rw [List.mapM_cons, Sem.run_bind, hy0, Result.andThen_ok, Sem.run_bind, hm, Result.andThen_ok, Sem.run_pure]
      · simp at h
    · simp at h
  | .v _ :: _, [], _, h => by simp [resOut] at h
  | .p _ :: _, [], _, h => by simp [resOut] at h
  | [], _ :: _, _, h => by simp [resOut] at h

theorem outsOut_ok (hI : Inv E.P F ι K s.heap w) : ∀ {ps : List PK} {vs : List AV} {xs : List Value} {k : outOf ps → List Nat → Option A}, outsOut s ps vs k = some z → AVCs E.P ι K w (Reg F ι s.heap w) vs xs →
    ∃ y ks O fz, k y ks = some z ∧ Pls (Pl ι s.heap) ks O fz ∧ OutRep E.P w (RegX F ι s.heap w fz) ps y xs O
  | [], [], xs, k, h, hv => by
    simp only [AVCs] at hv
    subst hv
    exact ⟨(), [], [], [], h, .nil, rfl, rfl⟩
  | .v _ :: ps, v :: vs, xs, k, h, hv => by
    simp only [AVCs] at hv
    obtain ⟨x, us, cs, rfl, hc, hval, hr⟩ := hv
    obtain ⟨y, ks, O, fz, h1, p1, r1⟩ := outsOut_ok (ps := ps) hI h hr
    exact ⟨y, ks, O, fz, h1, p1, x, us, rfl, r1⟩
  | .ro _ :: ps, v :: vs, xs, k, h, hv => by
    simp only [AVCs] at hv
    obtain ⟨x, us, cs, rfl, hc, hval, hr⟩ := hv
    obtain ⟨y, ks, O, fz, h1, p1, r1⟩ := outsOut_ok (ps := ps) hI h hr
    exact ⟨y, ks, O, fz, h1, p1, x, us, rfl, r1⟩
  | .fn _ :: ps, v :: vs, xs, k, h, hv => by
    simp only [AVCs] at hv
    obtain ⟨x, us, cs, rfl, hc, hval, hr⟩ := hv
    obtain ⟨y, ks, O, fz, h1, p1, r1⟩ := outsOut_ok (ps := ps) hI h hr
    exact ⟨y, ks, O, fz, h1, p1, x, us, rfl, r1⟩
  | .mv sh :: ps, v :: vs, xs, k, h, hv => by
    simp only [AVCs] at hv
    obtain ⟨x, us, cs, rfl, hc, hval, hr⟩ := hv
    simp only [outsOut] at h
    obtain ⟨y1, ts, rs', O1, fz1, h1, p1, s1, a1, _, _⟩ := takeSh_ok hI (RM.run_wp h) hc
    simp only [RM.wp] at h1
    obtain ⟨y, ks, O, fz, h2, p2, r2⟩ := outsOut_ok hI h1 hr
    exact ⟨(y1, y), ts ++ ks, O1 ++ O, fz1 ++ fz, h2, p1.append p2, x, us, cs, O1, O, rfl, by rw [← a1]; exact hval, s1.regx (by simp +contextual), rfl, r2.imp fun _ _ _ _ _ _ _ hs => hs.regx (by simp +contextual)⟩
  | .io sh :: ps, v :: vs, xs, k, h, hv => by
    cases v with
    | ptr b p u =>
      cases p with
      | cons _ _ => simp [outsOut] at h
      | nil =>
      simp only [AVCs] at hv
      obtain ⟨x, us, cs, rfl, hc, hval, hr⟩ := hv
      simp only [AVC] at hc
      obtain ⟨hKb, o, hko, rfl⟩ := hc
      have hp0 := valof_one (show ValOf false _ x from hval)
      simp only [outsOut] at h
      split at h
      · rename_i t c hlk
        cases hsm : sh.ty.same t with
        | false => rw [hsm] at h; simp at h
        | true =>
          rw [hsm] at h
          have hty := same_eq hsm
          subst hty
          simp only [cond_true] at h
          obtain ⟨hk, hd, cells, e, hbb, hvv, hlen, hone, hf⟩ := hI.blks b _ hlk
          obtain ⟨y1, ts, rs', O1, fz1, h1, p1, s1, _, l1, _⟩ := takeSh_ok hI (RM.run_wp h) hvv
          simp only [RM.wp] at h1
          obtain ⟨y, ks, O, fz, h2, p2, r2⟩ := outsOut_ok hI h1 hr
          rw [hk] at hko
          have ho := koff_box_off hko
          rw [ho, hd] at hp0
          exact ⟨(y1, y), b :: ts ++ ks, (ι b).c :: O1 ++ O, fz1 ++ fz, h2, .keep ⟨⟨_, hlk⟩, by rw [hk]; rfl, rfl⟩ (p1.append p2), (ι b).c, us, cells, e, O1, O, by rw [hp0], hbb, hlen, ⟨hone.1, fun hq => hone.2.1 (takeSh_ref (RM.run_wp h) hq), hone.2.2⟩, s1.regx (by simp +contextual), rfl, r2.imp fun _ _ _ _ _ _ _ hs => hs.regx (by simp +contextual)⟩
      · simp at h
    | _ => simp [outsOut] at h
  | .io _ :: _, [], _, _, h, _ => by simp [outsOut] at h
  | .mv _ :: _, [], _, _, h, _ => by simp [outsOut] at h
  | .v _ :: _, [], _, _, h, _ => by simp [outsOut] at h
  | .ro _ :: _, [], _, _, h, _ => by simp [outsOut] at h
  | .fn _ :: _, [], _, _, h, _ => by simp [outsOut] at h
  | [], _ :: _, _, _, h, _ => by simp [outsOut] at h

end
end Go.Tm

namespace Go.Tm
open Go

theorem look_nil (b : Nat) : look [] b = none := rfl

/-- the invariant, before anything is laid -/
theorem inv_nil {P : Program} {w : World} {S : Nat → Prop} {O : List Nat} (hS : ∀ c, S c → c < w.heap.size ∧ c ∉ O) : InvR P ⟨w, S, (· ∈ O)⟩ (fun _ => ⟨0, 0, .nilrow .unit⟩) (fun _ => False) [] w S :=
  ⟨⟨rfl, rfl, Nat.le_refl _⟩, hS, fun _ _ _ => rfl, fun b x h => by simp [look] at h, fun b x h => by simp [look] at h, fun b x h => by simp [look] at h, fun b b' x x' h => by simp [look] at h⟩

theorem single_results {vs : List Value} : (if h : vs.toArray.size = 1 then vs.toArray[0] else Value.tuple vs.toArray) = singleV vs := by
  match vs with
  | [] => rfl
  | [v] => rfl
  | u :: v :: r => rfl

theorem run_results {P : Program} {fn : Func} {a : Act} {w : World} {ys : List Value} (h : (fn.results.toList.mapM (resSem a)).run P w = .ok ys w) : (results fn a.tmps).run P w = .ok (singleV ys) w := by
  have e : results fn a.tmps = (do let vs ← fn.results.mapM (resSem a); pure (if h : vs.size = 1 then vs[0] else .tuple vs)) := by
    unfold results
    congr 1
  rw [e, Array.mapM_eq_mapM_toList, Sem.run_bind, Sem.run_map, h]
  simp only [Result.andThen_ok, Sem.run_pure]
  rw [single_results]

theorem slots_start {P : Program} {F : Fr} {ι : Nat → Inf} {K : Nat → Prop} {H : Heap} {w : World} {vs : List AV} {xs : List Value} (n : Nat) (h : AVCs P ι K w (Reg F ι H w) vs xs) :
    Slots P F ι K H w ⟨vs.length + (n - vs.length), fun i => getL vs i⟩ (xs.toArray ++ Array.replicate (n - xs.toArray.size) undef) := by
  obtain ⟨h1, h2⟩ := avcs_slots (n - vs.length) h
  refine ⟨by simp [h1, Tmps.length], fun t => ?_⟩
  have := h2 t
  have e : (xs.toArray ++ Array.replicate (n - xs.toArray.size) undef).getD t undef = (xs ++ List.replicate (n - vs.length) undef).getD t undef := by
    have hs : xs.toArray.size = vs.length := by simp [h1]
    rw [hs, ← List.toArray_replicate, List.append_toArray]
    simp [Array.getD_eq_getD_getElem?, List.getD_eq_getElem?_getD]
  rw [e]
  unfold getT
  rw [ble_succ]
  by_cases ht : t < vs.length + (n - vs.length)
  · simp only [ht, decide_true, cond_true]
    exact this
  · simp only [ht, decide_false, cond_false]
    rw [show (xs ++ List.replicate (n - vs.length) undef).getD t undef = undef from ?_]
    · exact ⟨[_], by unfold AVC; exact ⟨_, rfl⟩, rfl⟩
    · rw [List.getD_eq_getElem?_getD, List.getElem?_eq_none (by simp; omega)]; rfl

/-- A FUNCTION WHOSE BODY IS EVALUATED -/
theorem sound_of_body {E : Env} (hE : EnvT E) {f : FuncId} {fn : Func} {anns : List (Nat × LA)} {e : Entry} (hf : E.P.funcs[f]? = some fn) (hname : (fn.name == "runtime.NumGoroutine") = false) (hflat : e.sig.flat = true) (heq : ∀ x y, e.F x = some y → body E anns fn e.sig x = some y) : Sound E.P E.G f e := by
  refine ⟨hflat, fun w S O args x y hgs hargs hOn hS hO hF => ?_⟩
  have hb := heq x y hF
  unfold body at hb
  split at hb
  · simp at hb
  · rename_i c hc
    have hrun : (callFunc f args.toArray).run E.P w = .ok (.enter f args.toArray) w := by
      unfold callFunc
      rw [Sem.run_bind, run_program, Result.andThen_ok, hf]
      simp only [hname, hc, Option.isNone_some, Bool.false_eq_true, if_false]
      rfl
    unfold Runs
    rw [hrun]
    show Calls E.P f args.toArray w _
    generalize hin : argsIn e.sig.params x 0 = r at hb
    obtain ⟨vs, h, n⟩ := r
    rw [hflat] at hb
    simp only [cond_true] at hb
    let F : Fr := ⟨w, S, (· ∈ O)⟩
    have hE : EnvS E F := ⟨hE, hgs⟩
    obtain ⟨ι, K, L, hvs⟩ := argsIn_ok (F := F) (n := 0) (H := []) (inv_nil hS) hargs (fun c hc => ⟨fun ⟨b, x, hx, _⟩ => by simp [look] at hx, .inl hc⟩) hOn (fun b _ _ h => h)
    rw [hin] at L hvs
    simp only [List.append_nil] at L hvs
    have hreg : ∀ c, S c → Reg F ι h w c := fun c hc => ⟨.inl hc, (hS c hc).1, fun ho => by
      rcases L.own c ho with ⟨b, x, hx, _⟩ | ho
      · simp [look] at hx
      · exact (hS c hc).2 ho⟩
    have hI := L.inv.inv hreg
    have hvs' : AVCs E.P ι K w (Reg F ι h w) vs args := hvs.mono (fun _ h => ⟨h, rfl⟩) (fun c hc => ⟨hreg c hc, rfl⟩) (Nat.le_refl _)
    have hKn : ∀ b, K b → b < n := fun b hb => by
      rcases L.news b hb with h | h
      · exact h.elim
      · exact h.2
    refine calls_of_wp hf hc ?_
    have hon : On E.P F ι K ⟨⟨vs.length + (fn.ntmps - vs.length), fun i => getL vs i⟩, h, n, []⟩ { tmps := args.toArray ++ Array.replicate (fn.ntmps - args.toArray.size) undef, defers := [] } w := ⟨hI, slots_start fn.ntmps hvs', rfl⟩
    have hend : ∀ ds, Goes E F y ds ⟨⟨vs.length + (fn.ntmps - vs.length), fun i => getL vs i⟩, h, n, []⟩ ι K { tmps := args.toArray ++ Array.replicate (fn.ntmps - args.toArray.size) undef, defers := [] } w
        (fun s' => resOut E s' e.sig.res fn.results.toList fun r ks => outsOut s' e.sig.params vs fun o js => bif nodupN (ks ++ js) then some (r, o) else none)
        (fun a w' => a.defers = [] ∧ ∃ v, (results fn a.tmps).run E.P w' = .ok v w' ∧ ∃ x, Ending.returned v = .returned x ∧ Outcome E.P w S O e.sig args y x w') := by
      intro ds s' ι' K' a' w' hk ho hs ha hK'
      obtain ⟨r, ks, O1, fz1, ys, h1, p1, r1, hm⟩ := resOut_ok hE ho hk
      obtain ⟨o, js, O2, fz2, h2, p2, r2⟩ := outsOut_ok ho.inv h1 (hvs'.mono hs.known hs.reg hs.size)
      cases hnd : nodupN (ks ++ js) with
      | false => rw [hnd] at h2; simp at h2
      | true =>
        rw [hnd] at h2
        have h2 := Option.some.inj h2
        subst h2
        have hn := nodupN_iff.1 hnd
        have hp := p1.append p2
        refine ⟨ho.none, singleV ys, run_results hm, singleV ys, rfl, ho.inv.same, fun c hc hco => ho.inv.keep c hc hco, ys, O1, O2, rfl, hp.nodup ho.inv.pl hn, fun c hc => ?_, ?_, ?_⟩
        · obtain ⟨b, _, ⟨z, hz⟩, hr, e⟩ := hp.of c hc
          exact ⟨e ▸ ho.inv.mine b z hz hr, e ▸ ho.inv.exists hz hr⟩
        all_goals
          have hT : ∀ c, RegX F ι' s'.heap w' (fz1 ++ fz2) c → (S c ∨ c ∈ O ∨ w.heap.size ≤ c) ∧ c < w'.heap.size ∧ c ∉ O1 ++ O2 := by
            intro c hc
            rcases hc with hc | ⟨b, hb, z, hz, hr, e⟩
            · refine ⟨hc.1, hc.2.1, fun hm => hc.2.2 ?_⟩
              obtain ⟨b, _, ⟨z, hz⟩, hr, e⟩ := hp.of c hm
              exact ⟨b, z, hz, hr, e⟩
            · refine ⟨.inr (e ▸ ho.inv.mine b z hz hr), e ▸ ho.inv.exists hz hr, fun hm => ?_⟩
              obtain ⟨b2, _, hn2, hpl2⟩ := hp.apart hn c hm
              exact hn2 (ho.inv.pl _ _ c ⟨⟨z, hz⟩, hr, e⟩ hpl2 ▸ hb)
        · exact r1.imp fun _ _ _ _ _ hs => (hs.regx (bs' := fz1 ++ fz2) (by simp +contextual)).mono (fun c hc => ⟨hT c hc, rfl⟩) (fun _ _ => rfl)
        · exact r2.imp fun _ _ _ _ _ _ _ hs => (hs.regx (bs' := fz1 ++ fz2) (by simp +contextual)).mono (fun c hc => ⟨hT c hc, rfl⟩) (fun _ _ => rfl)
    refine ev_sound hE anns c hb hon hKn (hend _) (fun i => ?_) (hend _)
    intro s' ι' K' a' w' hk
    simp at hk

theorem so_of {E : Env} (hE : EnvT E) {f : FuncId} {fn : Func} (anns : List (Nat × LA)) {e : Entry} (hf : E.P.funcs[f]? = some fn) (hname : (fn.name == "runtime.NumGoroutine") = false) (hflat : e.sig.flat = true) (heq : ∀ x, body E anns fn e.sig x = e.F x) : Sound E.P E.G f e :=
  sound_of_body hE hf hname hflat fun x _ h => (heq x).trans h
end Go.Tm

namespace Go.Tm
open Go

/-! ## library functions without a body -/

/-- a float's bits; where it is no number, a word is left open -/
def bitsF (k : FloatKind) (x q : Nat) : Int := bif isNan k x then (bif isNan k q then Int.ofNat q else Int.ofNat (nan k)) else Int.ofNat x
def bits32P : PrimD := ⟨[.flt .f32], .int .u32, fun x q => bitsF .f32 x.1 q⟩
def bits64P : PrimD := ⟨[.flt .f64], .int .u64, fun x q => bitsF .f64 x.1 q⟩

theorem bitsF_canon {k : FloatKind} {b x : Nat} (h : canon k b = x) : bitsF k x b = (b : Int) := by
  unfold bitsF
  subst h
  cases hn : isNan k b with
  | true => rw [isNan_canon, hn]; rfl
  | false => rw [isNan_canon, hn, canon_of_num hn]; rfl

section
variable {P : Program} {G : List (Nat × Obj)} {f : FuncId} {fn : Func}

theorem bits32_prim (hf : P.funcs[f]? = some fn) (hname : (fn.name == "runtime.NumGoroutine") = false) (hb : fn.body.isNone = true) (hn : Extern.findNext fn = none) (he : Extern.find fn = some Extern.MathFloatBits.float32bits) : PrimS P f bits32P := by
  rintro w S x args ⟨v, us, rfl, ⟨cs, ⟨c, rfl, hc⟩, hv⟩, rfl⟩
  have hv := valof_one (show ValOf false _ v from hv)
  subst hv
  refine ⟨c, .int .u32 c, by rw [run_callFunc_extern hf hname hb hn he]; rfl, _, ?_, rfl⟩
  show [Value.int .u32 c] = [Value.int .u32 (bitsF .f32 x.1 c)]
  rw [bitsF_canon hc]
theorem bits64_prim (hf : P.funcs[f]? = some fn) (hname : (fn.name == "runtime.NumGoroutine") = false) (hb : fn.body.isNone = true) (hn : Extern.findNext fn = none) (he : Extern.find fn = some Extern.MathFloatBits.float64bits) : PrimS P f bits64P := by
  rintro w S x args ⟨v, us, rfl, ⟨cs, ⟨c, rfl, hc⟩, hv⟩, rfl⟩
  have hv := valof_one (show ValOf false _ v from hv)
  subst hv
  refine ⟨c, .int .u64 c, by rw [run_callFunc_extern hf hname hb hn he]; rfl, _, ?_, rfl⟩
  show [Value.int .u64 c] = [Value.int .u64 (bitsF .f64 x.1 c)]
  rw [bitsF_canon hc]

/-- an entry with one argument and one result, both plain -/
def unSig (a b : Ty) : Sig := ⟨[.v a], [.v (.val b)], false⟩
theorem un_sound {a b : Ty} (ha : a.bears = false) (hb : b.bears = false) (hga : a.isAgg = false) (hgb : b.isAgg = false) {F : a.den → b.den}
    (h : ∀ (w : World) (x : a.den) (v : Value), Rep w (fun _ => False) a x [v] → ∃ u w', (callFunc f #[v]).run P w = .ok (.value u) w' ∧ w'.heap = w.heap ∧ w'.os = w.os ∧ w'.output = w.output ∧ Rep w (fun _ => False) b (F x) [u]) :
    Sound P G f ⟨unSig a b, fun x => some ((F x.1, ()), ())⟩ := by
  refine ⟨?_, ?_⟩
  · simp [unSig, Sig.flat, PK.flat, RK.sh, Sh.flat, hb]
  · intro w S O args x y _ hargs hnd hS hO hy
    obtain ⟨v, us, rfl, ⟨cs, hr, hv⟩, rfl, rfl⟩ := hargs
    have hy : some ((F x.1, ()), ()) = some y := hy
    cases hy
    rw [hga] at hv
    have hl : ∃ u, cs = [u] := by
      have hl := hr.length
      cases a <;> simp_all [Ty.isAgg, Ty.size] <;> (match cs, hl with | [u], _ => exact ⟨u, rfl⟩)
    obtain ⟨u, rfl⟩ := hl
    have hvu : v = u := valof_one hv
    subst hvu
    obtain ⟨u, w', hrun, h1, h2, h3, h4⟩ := h w x.1 v (hr.flat ha)
    show Comes' P _ ((callFunc f #[v]).run P w)
    rw [hrun]
    refine ⟨⟨h2, h3, by rw [h1]; exact Nat.le_refl _⟩, fun c _ _ => by rw [h1], [u], [], [], rfl, by simp, by simp, ?_, ?_⟩
    · refine ⟨u, [], [u], [], [], rfl, ?_, ⟨?_, rfl⟩, rfl, rfl, rfl⟩
      · show ValOf b.isAgg [u] u
        rw [hgb]; rfl
      · exact (h4.flat hb)
    · exact ⟨v, [], rfl, rfl, rfl⟩

def math_Float32frombits (n : Int) : Option ((Nat × Unit) × Unit) := some ((canon .f32 n.toNat, ()), ())
def math_Float32frombits_en : Entry := ⟨unSig (.int .u32) (.flt .f32), fun x => math_Float32frombits x.1⟩
def math_Float64frombits (n : Int) : Option ((Nat × Unit) × Unit) := some ((canon .f64 n.toNat, ()), ())
def math_Float64frombits_en : Entry := ⟨unSig (.int .u64) (.flt .f64), fun x => math_Float64frombits x.1⟩
def math_sqrt (x : Nat) : Option ((Nat × Unit) × Unit) := some ((orNan .f64 (FloatKind.f64.format.sqrt x), ()), ())
def math_sqrt_en : Entry := ⟨unSig (.flt .f64) (.flt .f64), fun x => math_sqrt x.1⟩
/-- a float without its fraction -/
def fRound (way : Ieee.Toward) (x : Nat) : Nat := bif isNan .f64 x then nan .f64 else canon .f64 (FloatKind.f64.encode ((FloatKind.f64.decode x).integral way))
def math_archFloor (x : Nat) : Option ((Nat × Unit) × Unit) := some ((fRound .down x, ()), ())
def math_archFloor_en : Entry := ⟨unSig (.flt .f64) (.flt .f64), fun x => math_archFloor x.1⟩
def math_archTrunc (x : Nat) : Option ((Nat × Unit) × Unit) := some ((fRound .zero x, ()), ())
def math_archTrunc_en : Entry := ⟨unSig (.flt .f64) (.flt .f64), fun x => math_archTrunc x.1⟩
def math_RoundToEven (x : Nat) : Option ((Nat × Unit) × Unit) := some ((fRound .even x, ()), ())
def math_RoundToEven_en : Entry := ⟨unSig (.flt .f64) (.flt .f64), fun x => math_RoundToEven x.1⟩

theorem math_Float32frombits_sound (hf : P.funcs[f]? = some fn) (hname : (fn.name == "runtime.NumGoroutine") = false) (hb : fn.body.isNone = true) (hn : Extern.findNext fn = none) (he : Extern.find fn = some Extern.MathFloatBits.float32frombits) : Sound P G f math_Float32frombits_en := by
  refine un_sound (a := .int .u32) (b := .flt .f32) rfl rfl rfl rfl (F := fun n : Int => canon .f32 n.toNat) ?_
  intro w x v hr
  have : v = .int .u32 x := by simpa [Rep] using hr
  subst this
  exact ⟨.float .f32 (Int.toNat x), w, by rw [run_callFunc_extern hf hname hb hn he]; rfl, rfl, rfl, rfl, _, rfl, rfl⟩
theorem math_Float64frombits_sound (hf : P.funcs[f]? = some fn) (hname : (fn.name == "runtime.NumGoroutine") = false) (hb : fn.body.isNone = true) (hn : Extern.findNext fn = none) (he : Extern.find fn = some Extern.MathFloatBits.float64frombits) : Sound P G f math_Float64frombits_en := by
  refine un_sound (a := .int .u64) (b := .flt .f64) rfl rfl rfl rfl (F := fun n : Int => canon .f64 n.toNat) ?_
  intro w x v hr
  have : v = .int .u64 x := by simpa [Rep] using hr
  subst this
  exact ⟨.float .f64 (Int.toNat x), w, by rw [run_callFunc_extern hf hname hb hn he]; rfl, rfl, rfl, rfl, _, rfl, rfl⟩

theorem sqrt_nan {x : Nat} (h : isNan .f64 x = true) : FloatKind.f64.format.sqrt x = none := by
  obtain ⟨s, f, e⟩ := isNan_iff.1 h
  simp [Ieee.Format.sqrt, e, Ieee.Datum.root]
theorem sqrt_canon (x : Nat) : FloatKind.f64.format.sqrt (canon .f64 x) = FloatKind.f64.format.sqrt x := by
  cases h : isNan .f64 x with
  | true => rw [sqrt_nan h, sqrt_nan (by rw [isNan_canon]; exact h)]
  | false => rw [canon_of_num h]
theorem run_sqrt (c : Nat) (w : World) : ∃ u w', (Extern.MathSqrt.sqrt #[.float .f64 c]).run P w = .ok (.float .f64 u) w' ∧ w'.heap = w.heap ∧ w'.os = w.os ∧ w'.output = w.output ∧ canon .f64 u = orNan .f64 (FloatKind.f64.format.sqrt c) := by
  have e : Extern.MathSqrt.sqrt #[.float .f64 c] = (match FloatKind.f64.format.sqrt c with
    | some r => pure (Value.float .f64 r)
    | none => do pure (Value.float .f64 (← choose (.nanBits .f64 c c))) : Sem Value) := rfl
  rw [e]
  cases hs : FloatKind.f64.format.sqrt c with
  | some r => exact ⟨r, w, rfl, rfl, rfl, rfl, rfl⟩
  | none =>
    simp only [Sem.run_bind, run_choose]
    rw [if_neg (by simp [Question.forced])]
    simp only [Result.andThen_ok, Sem.run_pure]
    exact ⟨_, _, rfl, rfl, rfl, rfl, drawn_nan .f64 _ _ (.inr (.inl ⟨_, _, rfl⟩))⟩
theorem math_sqrt_sound (hf : P.funcs[f]? = some fn) (hname : (fn.name == "runtime.NumGoroutine") = false) (hb : fn.body.isNone = true) (hn : Extern.findNext fn = none) (he : Extern.find fn = some Extern.MathSqrt.sqrt) : Sound P G f math_sqrt_en := by
  refine un_sound (a := .flt .f64) (b := .flt .f64) rfl rfl rfl rfl (F := fun x : Nat => orNan .f64 (FloatKind.f64.format.sqrt x)) ?_
  intro w x v hr
  obtain ⟨c, hc, rfl⟩ := hr
  have : v = .float .f64 c := by simpa using hc
  subst this
  obtain ⟨u, w', h1, h2, h3, h4, h5⟩ := run_sqrt (P := P) c w
  rw [run_callFunc_extern hf hname hb hn he, h1]
  refine ⟨.float .f64 u, w', rfl, h2, h3, h4, u, rfl, ?_⟩
  show canon .f64 u = orNan .f64 (FloatKind.f64.format.sqrt (canon .f64 c))
  rw [h5, sqrt_canon]

theorem quiet_nan (s : Bool) (t : Nat) : isNan .f64 (FloatKind.f64.encode (.nan s (FloatKind.f64.format.quiet t))) = true := by
  refine isNan_iff.2 ?_
  have key : ∀ r : Nat, r ≠ 0 → r < 4503599627370496 → ∃ a b, FloatKind.f64.format.read (FloatKind.f64.format.word s (9218868437227405312 + r)) = .nan a b := by
    intro r h0 h1
    have e1 : FloatKind.f64.format.binade = 4503599627370496 := rfl
    have e2 : FloatKind.f64.format.infRung = 9218868437227405312 := rfl
    have e3 : FloatKind.f64.format.signWeight = 9223372036854775808 := rfl
    have hm : FloatKind.f64.format.word s (9218868437227405312 + r) % 9223372036854775808 = 9218868437227405312 + r := by
      unfold Ieee.Format.word
      rw [e3]
      cases s <;> simp <;> omega
    unfold Ieee.Format.read
    simp only [e1, e2, e3, hm]
    rw [if_neg (by omega), if_neg (by omega), if_neg (by omega)]
    exact ⟨_, _, rfl⟩
  have e1 : FloatKind.f64.format.binade = 2 ^ 52 := rfl
  show ∃ a b, FloatKind.f64.format.read (FloatKind.f64.format.word s (9218868437227405312 + (t ||| 2 ^ 51) % 2 ^ 52)) = .nan a b
  refine key _ (fun h => ?_) (Nat.mod_lt _ (by decide))
  have : ((t ||| 2 ^ 51) % 2 ^ 52).testBit 51 = true := by
    rw [Nat.testBit_mod_two_pow, Nat.testBit_or, Nat.testBit_two_pow_self]; simp
  rw [h] at this
  simp at this

theorem run_integral {way : Ieee.Toward} {name : String} (c : Nat) (w : World) : ∃ u w', (Extern.MathFloor.toIntegral name way #[.float .f64 c]).run P w = .ok (.float .f64 u) w' ∧ w'.heap = w.heap ∧ w'.os = w.os ∧ w'.output = w.output ∧ canon .f64 u = fRound way (canon .f64 c) := by
  unfold fRound
  rw [isNan_canon]
  have e : Extern.MathFloor.toIntegral name way #[.float .f64 c] = (match FloatKind.f64.decode c with
    | .nan s t => if FloatKind.f64.format.quiet t = t then pure (Value.float .f64 c) else do
      let kept ← choose (.extern "math.Floor,Ceil,Trunc,RoundToEven.signallingNaN kept" 2)
      pure (Value.float .f64 (if kept == 1 then c else FloatKind.f64.encode (.nan s (FloatKind.f64.format.quiet t))))
    | d => pure (Value.float .f64 (FloatKind.f64.encode (d.integral way))) : Sem Value) := rfl
  rw [e]
  cases hN : isNan .f64 c with
  | true =>
    obtain ⟨s, t, e⟩ := isNan_iff.1 hN
    have e' : FloatKind.f64.decode c = .nan s t := e
    have hcn : canon .f64 c = nan .f64 := canon_of_nan hN
    rw [e']
    simp only [cond_true]
    split
    · exact ⟨c, w, rfl, rfl, rfl, rfl, hcn⟩
    · simp only [Sem.run_bind, run_choose]
      rw [if_neg (by simp [Question.forced])]
      simp only [Result.andThen_ok, Sem.run_pure]
      refine ⟨_, _, rfl, rfl, rfl, rfl, ?_⟩
      split
      · exact hcn
      · exact canon_of_nan (quiet_nan s t)
  | false =>
    have hd : ∀ s t, FloatKind.f64.decode c ≠ .nan s t := fun s t e => by
      have := isNan_iff.2 ⟨s, t, e⟩
      rw [hN] at this; simp at this
    rw [canon_of_num hN]
    simp only [cond_false]
    cases hdc : FloatKind.f64.decode c with
    | nan s t => exact absurd hdc (hd s t)
    | infinity s => exact ⟨_, w, rfl, rfl, rfl, rfl, rfl⟩
    | number s m e => exact ⟨_, w, rfl, rfl, rfl, rfl, rfl⟩

theorem round_sound {way : Ieee.Toward} {name : String} (hf : P.funcs[f]? = some fn) (hname : (fn.name == "runtime.NumGoroutine") = false) (hb : fn.body.isNone = true) (hn : Extern.findNext fn = none) (he : Extern.find fn = some (Extern.MathFloor.toIntegral name way)) :
    Sound P G f ⟨unSig (.flt .f64) (.flt .f64), fun x => some ((fRound way x.1, ()), ())⟩ := by
  refine un_sound (a := .flt .f64) (b := .flt .f64) rfl rfl rfl rfl (F := fun x : Nat => fRound way x) ?_
  intro w x v hr
  obtain ⟨c, hc, rfl⟩ := hr
  have : v = .float .f64 c := by simpa using hc
  subst this
  obtain ⟨u, w', h1, h2, h3, h4, h5⟩ := run_integral (P := P) (way := way) (name := name) c w
  rw [run_callFunc_extern hf hname hb hn he, h1]
  exact ⟨.float .f64 u, w', rfl, h2, h3, h4, u, rfl, h5⟩
end
end Go.Tm

namespace Go.Tm
open Go

/-! ## what comes in, as typed data -/

def roundUp (n a : Nat) : Nat := (n + (a - 1)) / a * a
def Ty.al : Ty → Nat
  | .int k => k.bits / 8
  | .flt .f32 => 4
  | .pair a b => max a.al b.al
  | .arr _ t => t.al
  | .bool => 1
  | .unit => 1
  | _ => 8
/-- where a value of the type ends that begins at o: of a struct, the end of its last field -/
def Ty.ends : Ty → Nat → Nat
  | .int k, o => o + k.bits / 8
  | .flt .f32, o => o + 4
  | .flt .f64, o => o + 8
  | .bool, o => o + 1
  | .unit, o => o
  | .str, o => o + 16
  | .err, o => o + 16
  | .ref _, o => o + 8
  | .list _, o => o + 24
  | .arr n t, o => o + n * roundUp (t.ends 0) t.al
  | .pair a b, o => b.ends (roundUp o a.al + roundUp (a.ends 0) a.al)
def Ty.bytes (t : Ty) : Nat := roundUp (t.ends 0) t.al

def FitVec {α : Type} (F : α → Prop) : (n : Nat) → Vec n α → Prop
  | 0, _ => True
  | n + 1, x => F x.1 ∧ FitVec F n x.2

def intFit (k : IntKind) (n : Int) : Prop := k.min ≤ n ∧ n ≤ k.max
def fltTop : FloatKind → Nat
  | .f32 => 4294967296
  | .f64 => 18446744073709551616
def fltFit (k : FloatKind) (b : Nat) : Prop := canon k b = b ∧ b < fltTop k
def strFit (s : List UInt8) : Prop := s.length ≤ 140737488351232
def listFit {α : Type} (F : α → Prop) (bytes : Nat) (l : List α) : Prop := l.length * bytes ≤ 140737488351232 ∧ ∀ x ∈ l, F x

/-- what is known of data that comes in -/
def Fit : (t : Ty) → t.den → Prop
  | .int k, n => intFit k n
  | .flt k, b => fltFit k b
  | .bool, _ => True
  | .str, s => strFit s
  | .unit, _ => True
  | .pair a b, x => Fit a x.1 ∧ Fit b x.2
  | .arr n t, x => FitVec (Fit t) n x
  | .list t, xs => listFit (Fit t) t.bytes xs
  | .err, _ => False
  | .ref _, _ => False

mutual
/-- is data of the type read -/
def fitB (P : Program) : Ty → TypeId → Bool
  | .int _, _ => true
  | .flt _, _ => true
  | .bool, _ => true
  | .str, _ => true
  | .unit, _ => true
  | .pair a b, i => (match P.underlying i with
    | some (.struct fs) => (match fs.toList with | f :: r => fitB P a f.type && fitR P b r | [] => false)
    | _ => false)
  | .arr _ t, i => (match P.underlying i with | some (.array _ e) => fitB P t e | _ => false)
  | .list t, i => (match P.underlying i with | some (.slice e) => fitB P t e && Nat.beq (P.bytesOf e) t.bytes && Nat.ble 1 t.size | _ => false)
  | _, _ => false
def fitR (P : Program) : Ty → List Field → Bool
  | .unit, [] => true
  | .pair a b, f :: r => fitB P a f.type && fitR P b r
  | _, _ => false
end

section
variable {H : Type} {enc : TypeId × Value → H} {P : Program} {w : World} {spare : Nat → Bool} {held : Bool}

theorem trod_float {k : FloatKind} {fuel : Nat} {t : TypeId} {cs : List Value} {x : DataW H × List MemPlace} (ht : P.underlying t = some (.float k)) (h : DataW.trod enc P w 0 spare held fuel t cs = some x) : ∃ n, cs = [.float k n] ∧ x = (.lit (.float k n), []) ∧ (Lit.float k n).wf = true := by
  cases fuel with
  | zero => simp [DataW.trod] at h
  | succ n =>
    unfold DataW.trod at h
    rw [ht] at h
    split at h <;> simp_all

theorem nan_lt (k : FloatKind) : nan k < fltTop k := by cases k <;> decide
theorem canon_lt {k : FloatKind} {b : Nat} (h : b < fltTop k) : canon k b < fltTop k := by
  unfold canon
  cases isNan k b with
  | false => exact h
  | true => exact nan_lt k

def FitA (P : Program) (t : Ty) : Prop := ∀ {H : Type} {enc : TypeId × Value → H} {w : World} {spare : Nat → Bool} {held : Bool} {i : TypeId} {fuel : Nat} {cs : List Value} {x : DataW H × List MemPlace}, okTy P t i = true → fitB P t i = true →
  DataW.trod enc P w 0 spare held fuel i cs = some x → (x.1.weights P i).all (· ≤ reachBytes) = true → ∃ y, Rep w (fun c => c < w.heap.size) t y cs ∧ Fit t y
def FitBo (P : Program) (b : Ty) : Prop := ∀ {H : Type} {enc : TypeId × Value → H} {w : World} {spare : Nat → Bool} {held : Bool} {r : List Field} {o n : Nat} {cs : List Value} {xs : List (DataW H × List MemPlace)}, okRest P b r o = true → fitR P b r = true → cs.length = o + b.size → xs.length = r.length →
  (∀ (j : Nat) (f : Field), r[j]? = some f → DataW.trod enc P w 0 spare held n f.type ((cs.drop f.offset).take (P.cellsOf f.type)) = xs[j]?) → (DataW.weightsEach P (r.map (·.type)) (xs.map (·.1))).all (· ≤ reachBytes) = true →
  ∃ y, Rep w (fun c => c < w.heap.size) b y (cs.drop o) ∧ Fit b y

theorem cellsOf_ok {t : Ty} {i : TypeId} (h : okTy P t i = true) : P.cellsOf i = t.size := by
  obtain ⟨f, hf, hs⟩ := info_of h
  simp [Program.cellsOf, hf, hs]

theorem arr_build {t : Ty} {w : World} {S : Nat → Prop} {k : Nat} {cs : List Value} : ∀ (n j0 : Nat), (∀ j, j < n → ∃ y, Rep w S t y ((cs.drop ((j0 + j) * k)).take k) ∧ Fit t y) → cs.length = (j0 + n) * k →
    ∃ v : Vec n t.den, RepVec (Rep w S t) n v (cs.drop (j0 * k)) ∧ FitVec (Fit t) n v
  | 0, j0, _, hl => ⟨(), by simp [RepVec, hl], trivial⟩
  | n + 1, j0, h, hl => by
    obtain ⟨y, hy, fy⟩ := h 0 (by omega)
    obtain ⟨v, hv, fv⟩ := arr_build (t := t) n (j0 + 1) (fun j hj => by have := h (j + 1) (by omega); rw [show j0 + 1 + j = j0 + (j + 1) by omega]; exact this) (by rw [hl]; congr 1; omega)
    refine ⟨(y, v), ⟨_, _, ?_, hy, hv⟩, fy, fv⟩
    rw [Nat.add_zero, Nat.add_mul, Nat.one_mul, ← List.drop_drop, List.take_append_drop]

theorem list_build {t : Ty} {w : World} {S : Nat → Prop} {k c o : Nat} : ∀ (n i0 : Nat), (∀ j, j < n → ∃ cs y, cs.length = k ∧ CellsAt w c (o + (i0 + j) * k) cs ∧ Rep w S t y cs ∧ Fit t y) →
    ∃ (xs : List t.den) (vs : List Value), xs.length = n ∧ RepList (Rep w S t) xs vs ∧ CellsAt w c (o + i0 * k) vs ∧ ∀ y ∈ xs, Fit t y
  | 0, _, _ => ⟨[], [], rfl, rfl, fun j v h => by simp at h, by simp⟩
  | n + 1, i0, h => by
    obtain ⟨cs, y, hl, hat, hy, fy⟩ := h 0 (by omega)
    obtain ⟨xs, vs, h1, h2, h3, h4⟩ := list_build (t := t) n (i0 + 1) (fun j hj => by have := h (j + 1) (by omega); rw [show i0 + 1 + j = i0 + (j + 1) by omega]; exact this)
    refine ⟨y :: xs, cs ++ vs, by simp [h1], ⟨cs, vs, rfl, hy, h2⟩, fun j v hj => ?_, fun z hz => ?_⟩
    · by_cases hjk : j < cs.length
      · rw [List.getElem?_append_left hjk] at hj
        have := hat j v hj
        rw [Nat.add_zero] at this
        exact this
      · rw [List.getElem?_append_right (by omega)] at hj
        have := h3 _ v hj
        rw [hl] at this hjk
        rw [show o + i0 * k + j = o + (i0 + 1) * k + (j - k) by rw [Nat.add_mul, Nat.one_mul]; omega]
        exact this
    · rcases List.mem_cons.1 hz with e | hz
      · subst e; exact fy
      · exact h4 z hz

theorem weightsAll_mem {e : TypeId} : ∀ {l : List (DataW H)}, (DataW.weightsAll P e l).all (· ≤ reachBytes) = true → ∀ d ∈ l, (d.weights P e).all (· ≤ reachBytes) = true
  | [], _, d, hd => by simp at hd
  | a :: r, h, d, hd => by
    simp only [DataW.weightsAll, List.all_append, Bool.and_eq_true] at h
    rcases List.mem_cons.1 hd with e | hd
    · subst e; exact h.1
    · exact weightsAll_mem h.2 d hd

theorem fit_nil {α : Type} (F : α → Prop) (k : Nat) : listFit F k [] := ⟨by simp, by simp⟩
theorem fit_ok : ∀ t : Ty, FitA P t ∧ FitBo P t := by
  intro t
  have noB : ∀ t : Ty, (∀ a b, t ≠ .pair a b) → t ≠ .unit → FitBo P t := by
    intro t h1 h2 H enc w spare held r o n cs xs h
    cases t <;> first | exact absurd rfl (h1 _ _) | exact absurd rfl h2 | (cases r <;> simp [okRest] at h)
  induction t with
  | int k =>
    refine ⟨?_, noB _ (by simp) (by simp)⟩
    intro H enc w spare held i fuel cs x hok _ h _
    simp only [okTy, Bool.and_eq_true] at hok
    obtain ⟨_, hu⟩ := hok
    split at hu
    · rename_i l hl
      obtain rfl : l = k := by simpa using hu
      obtain ⟨n, rfl, _, hw⟩ := DataW.trod_int hl h
      simp only [Lit.wf, Bool.and_eq_true, decide_eq_true_eq] at hw
      exact ⟨n, rfl, hw⟩
    · simp at hu
  | flt k =>
    refine ⟨?_, noB _ (by simp) (by simp)⟩
    intro H enc w spare held i fuel cs x hok _ h _
    simp only [okTy, Bool.and_eq_true] at hok
    obtain ⟨_, hu⟩ := hok
    split at hu
    · rename_i l hl
      obtain rfl : l = k := by simpa using hu
      obtain ⟨n, rfl, _, hw⟩ := trod_float hl h
      refine ⟨canon l n, ⟨n, rfl, rfl⟩, canon_canon l n, canon_lt ?_⟩
      cases l <;> simpa [Lit.wf, fltTop] using hw
    · simp at hu
  | bool =>
    refine ⟨?_, noB _ (by simp) (by simp)⟩
    intro H enc w spare held i fuel cs x hok _ h _
    simp only [okTy, Bool.and_eq_true] at hok
    obtain ⟨_, hu⟩ := hok
    split at hu
    · rename_i hl
      obtain ⟨n, rfl, _⟩ := DataW.trod_bool hl h
      exact ⟨n, rfl, trivial⟩
    · simp at hu
  | str =>
    refine ⟨?_, noB _ (by simp) (by simp)⟩
    intro H enc w spare held i fuel cs x hok _ h hwt
    simp only [okTy, Bool.and_eq_true] at hok
    obtain ⟨_, hu⟩ := hok
    split at hu
    · rename_i hl
      obtain ⟨s, rfl, rfl, _⟩ := DataW.trod_string hl h
      refine ⟨s.data.toList, by cases s; rfl, ?_⟩
      simp only [DataW.weights, reachBytes, List.all_cons, List.all_nil, Bool.and_true, Array.length_toList] at hwt
      have h2 := of_decide_eq_true hwt
      show s.data.toList.length ≤ 140737488351232
      simpa only [Array.length_toList] using h2
    · simp at hu
  | unit =>
    have hB : FitBo P .unit := by
      intro H enc w spare held r o n cs xs hok _ hl _ _ _
      refine ⟨(), ?_, trivial⟩
      simp only [Ty.size] at hl
      simp [Rep, hl]
    refine ⟨?_, hB⟩
    intro H enc w spare held i fuel cs x hok _ h _
    have hsz := cellsOf_ok hok
    simp only [okTy, Bool.and_eq_true] at hok
    obtain ⟨_, hu⟩ := hok
    split at hu
    · rename_i fs hl
      obtain ⟨xs, n, _, _, hlen, _⟩ := DataW.trod_struct hl h
      rw [hsz] at hlen
      exact ⟨(), List.eq_nil_of_length_eq_zero hlen, trivial⟩
    · simp at hu
  | err => exact ⟨fun _ h => by simp [fitB] at h, noB _ (by simp) (by simp)⟩
  | ref => exact ⟨fun _ h => by simp [fitB] at h, noB _ (by simp) (by simp)⟩
  | pair a b iha ihb =>
    have hB : FitBo P (.pair a b) := by
      intro H enc w spare held r o n cs xs hok hf hl hxl hx hwt
      cases r with
      | nil => simp [okRest] at hok
      | cons f r =>
        cases xs with
        | nil => simp at hxl
        | cons x xs =>
          simp only [okRest, Bool.and_eq_true] at hok
          obtain ⟨⟨ho, hoa⟩, hor⟩ := hok
          simp only [fitR, Bool.and_eq_true] at hf
          have ho := Nat.eq_of_beq_eq_true ho
          simp only [List.map_cons, DataW.weightsEach, List.all_append, Bool.and_eq_true] at hwt
          have h0 := hx 0 f rfl
          simp only [List.getElem?_cons_zero] at h0
          obtain ⟨y, hy, fy⟩ := iha.1 hoa hf.1 h0 hwt.1
          simp only [Ty.size] at hl
          obtain ⟨z, hz, fz⟩ := ihb.2 (o := o + a.size) (cs := cs) (xs := xs) hor hf.2 (by omega) (by simpa using hxl) (fun j g hj => by simpa using hx (j + 1) g (by simpa using hj)) hwt.2
          rw [ho, cellsOf_ok hoa] at hy
          refine ⟨(y, z), ⟨_, _, ?_, hy, hz⟩, fy, fz⟩
          rw [← List.drop_drop, List.take_append_drop]
    refine ⟨?_, hB⟩
    intro H enc w spare held i fuel cs x hok hf h hwt
    have hsz := cellsOf_ok hok
    simp only [okTy, Bool.and_eq_true] at hok
    obtain ⟨_, hok⟩ := hok
    simp only [fitB] at hf
    split at hok
    · rename_i fs hl
      rw [hl] at hf
      obtain ⟨xs, n, _, rfl, hlen, hxl, hx⟩ := DataW.trod_struct hl h
      simp only [DataW.weights, hl] at hwt
      cases hfl : fs.toList with
      | nil => rw [hfl] at hok; simp at hok
      | cons f r =>
        rw [hfl] at hok
        simp only [hfl] at hf
        simp only [Bool.and_eq_true] at hok
        obtain ⟨⟨h0, h1⟩, h2⟩ := hok
        obtain ⟨y, hy, fy⟩ := hB (r := f :: r) (o := 0) (cs := cs) (xs := xs) (by
          simp only [okRest, Bool.and_eq_true]
          exact ⟨⟨h0, h1⟩, by rw [Nat.zero_add]; exact h2⟩) (by simp only [fitR]; exact hf) (by rw [hlen, hsz, Nat.zero_add]) (by rw [hxl, ← hfl]; simp) (fun j g hj => hx j g (by rw [← hfl] at hj; simpa using hj)) (by rw [← hfl]; exact hwt)
        exact ⟨y, hy, fy⟩
    · simp at hok
  | arr n t ih =>
    refine ⟨?_, noB _ (by simp) (by simp)⟩
    intro H enc w spare held i fuel cs x hok hf h hwt
    have hsz := cellsOf_ok hok
    simp only [okTy, Bool.and_eq_true] at hok
    obtain ⟨_, hok⟩ := hok
    simp only [fitB] at hf
    split at hok
    · rename_i m e hl
      rw [hl] at hf
      simp only [Bool.and_eq_true] at hok
      obtain ⟨hm, hoe⟩ := hok
      obtain rfl := Nat.eq_of_beq_eq_true hm
      obtain ⟨xs, n, _, rfl, hlen, hxl, hx⟩ := DataW.trod_array hl h
      simp only [DataW.weights, hl] at hwt
      have hse := cellsOf_ok hoe
      rw [hse] at hx
      obtain ⟨v, hv, fv⟩ := arr_build (t := t) (w := w) (S := fun c => c < w.heap.size) (k := t.size) (cs := cs) m 0 (fun j hj => by
        have hxj := hx j hj
        rw [Nat.zero_add]
        cases hq : xs[j]? with
        | none => rw [List.getElem?_eq_none_iff] at hq; omega
        | some q =>
          rw [hq] at hxj
          exact ih.1 hoe hf hxj (weightsAll_mem hwt q.1 (List.mem_map.2 ⟨q, List.mem_of_getElem? hq, rfl⟩))) (by rw [hlen, hsz, Nat.zero_add]; rfl)
      rw [Nat.zero_mul, List.drop_zero] at hv
      exact ⟨v, hv, fv⟩
    · simp at hok
  | list t ih =>
    refine ⟨?_, noB _ (by simp) (by simp)⟩
    intro H enc w spare held i fuel cs x hok hf h hwt
    simp only [okTy, Bool.and_eq_true] at hok
    obtain ⟨_, hok⟩ := hok
    simp only [fitB] at hf
    split at hok
    · rename_i e hl
      rw [hl] at hf
      simp only [Bool.and_eq_true, Nat.ble_eq] at hf
      obtain ⟨⟨hfe, hbe⟩, hs1⟩ := hf
      have hbe := Nat.eq_of_beq_eq_true hbe
      have hse := cellsOf_ok hok
      rcases DataW.trod_slice hl h with ⟨rfl, rfl⟩ | ⟨a, len, cap, elems, rest, n, _, rfl, rfl, hb, hlc, hcm, hel, hx, _⟩
      · exact ⟨[], ⟨none, 0, rfl, Nat.le_refl _, .inl rfl⟩, fit_nil _ _⟩
      · simp only [DataW.weights, hl, List.all_cons, List.all_append, Bool.and_eq_true, decide_eq_true_eq] at hwt
        obtain ⟨hw1, hw2, _⟩ := hwt
        rw [hse] at hx
        have hel2 : ∀ j, j < len → ∃ cs q, w.cells? 0 (a.add (j * t.size)) t.size = some cs ∧ elems[j]? = some q ∧ DataW.trod enc P w 0 spare held n e cs = some q := by
          intro j hj
          have hxj := hx j hj
          cases hq : elems[j]? with
          | none => rw [List.getElem?_eq_none_iff] at hq; omega
          | some q =>
            rw [hq, Option.bind_eq_some_iff] at hxj
            obtain ⟨cs, h1, h2⟩ := hxj
            exact ⟨cs, q, h1, rfl, h2⟩
        have hsmall : ∀ len' : Nat, len' = len → (len' : Nat) * t.bytes ≤ 140737488351232 := by
          intro len' e1
          rw [e1, ← hbe]
          refine Nat.le_trans (Nat.mul_le_mul_right _ ?_) hw1
          simp [hel]
        by_cases h0 : len = 0
        · subst h0
          exact ⟨[], ⟨some a, cap, rfl, Nat.zero_le _, .inl rfl⟩, fit_nil _ _⟩
        · obtain ⟨b, off, spot⟩ := a
          have hspot : spot = none := by
            obtain ⟨cs, q, h1, _⟩ := hel2 0 (by omega)
            obtain ⟨_, h2, h3⟩ := World.cells?_some h1
            have := h3 0 (by omega)
            have hc0 : ∃ v, cs[0]? = some v := by
              cases hh : cs[0]? with
              | none => rw [List.getElem?_eq_none_iff] at hh; omega
              | some v => exact ⟨v, rfl⟩
            obtain ⟨v, hv⟩ := hc0
            rw [hv] at this
            simpa [Addr.add] using World.cell?_spot this
          subst hspot
          have hadd : ∀ k, (⟨b, off, none⟩ : Addr).add k = ⟨b, off + k, none⟩ := fun k => Go.WideShapes.add_plain ..
          have hblk : b < w.heap.size := by
            obtain ⟨cs, q, h1, _⟩ := hel2 0 (by omega)
            rw [hadd] at h1
            exact World.cells?_block h1 hs1
          obtain ⟨xs, vs, h1, h2, h3, h4⟩ := list_build (t := t) (w := w) (S := fun c => c < w.heap.size) (k := t.size) (c := b) (o := off) len 0 (fun j hj => by
            obtain ⟨cs, q, g1, g2, g3⟩ := hel2 j hj
            obtain ⟨_, g4, g5⟩ := World.cells?_some g1
            obtain ⟨y, hy, fy⟩ := ih.1 hok hfe g3 (weightsAll_mem hw2 q.1 (List.mem_map.2 ⟨q, List.mem_of_getElem? g2, rfl⟩))
            refine ⟨cs, y, g4, fun p v hp => ?_, hy, fy⟩
            have hpl : p < t.size := by
              have := (List.getElem?_eq_some_iff.1 hp).1
              omega
            have := g5 p hpl
            rw [hadd] at this
            have e1 : (⟨b, off + j * t.size, none⟩ : Addr).add p = ⟨b, off + j * t.size + p, none⟩ := Go.WideShapes.add_plain ..
            rw [e1, hp] at this
            rw [Nat.zero_add]; exact this)
          refine ⟨xs, ⟨some ⟨b, off, none⟩, cap, ?_, ?_, .inr ⟨b, off, vs, rfl, hblk, ?_, h2⟩⟩, ⟨hsmall _ h1, h4⟩⟩
          · show _ = [Value.slice _ (List.length (α := t.den) xs) cap]
            rw [h1]
          · show List.length (α := t.den) xs ≤ cap
            rw [h1]; exact hlc
          · have := h3
            rw [Nat.zero_mul, Nat.add_zero] at this
            exact this
    · simp at hok

end
end Go.Tm

namespace Go.Tm
open Go

def okPs (P : Program) : List Ty → List TypeId → Bool
  | [], [] => true
  | t :: ts, i :: is => okTy P t i && fitB P t i && okPs P ts is
  | _, _ => false
def FitAll : (ts : List Ty) → domOf (ts.map PK.v) → Prop
  | [], _ => True
  | t :: ts, x => Fit t x.1 ∧ FitAll ts x.2

section
variable {H : Type} {enc : TypeId × Value → H} {P : Program} {w : World} {spare : Nat → Bool} {held : Bool}

theorem okWide_agg {t : Ty} {i : TypeId} {v : Value} {r : Reach} {b : Nat} (hok : okTy P t i = true) (hf : fitB P t i = true) (hv : Value.okWide P w r b i v) : ValOf t.isAgg v.cells.toList v := by
  have one : ∀ {k : TypeDesc}, P.underlying i = some k → t.isAgg = false → (match k with | .int _ | .float _ | .bool | .string | .slice _ => True | _ => False) → ValOf t.isAgg v.cells.toList v := by
    intro k hk ha hkk
    rw [ha]
    simp only [Value.okWide, hk, Cell.okWide] at hv
    cases k <;> first | exact hkk.elim | skip
    all_goals cases v <;> first | rfl | simp_all [Cell.ok]
  cases t <;> simp only [okTy, Bool.and_eq_true] at hok <;> obtain ⟨_, hu⟩ := hok <;> split at hu <;> first
    | (simp at hu; done)
    | (rename_i hl; exact one hl rfl trivial)
    | (simp [fitB] at hf; done)
    | skip
  all_goals
    rename_i hl
    simp only [Value.okWide, hl] at hv
    obtain ⟨cs, rfl, _⟩ := hv
    simp [ValOf, Ty.isAgg, Value.cells]

theorem args_fit {r : Reach} {b : Nat} : ∀ {ts : List Ty} {is : List TypeId} {vs : List Value} {ds : List (DataW H)} {ps : List MemPlace}, okPs P ts is = true → DataW.TrodAll enc P w 0 spare held is vs ds ps →
    (∀ (j : Nat) i v, is[j]? = some i → vs[j]? = some v → Value.okWide P w r b i v) → (DataW.weightsEach P is ds).all (· ≤ reachBytes) = true → ∃ x, ArgsRep P w (fun c => c < w.heap.size) (ts.map PK.v) x vs [] ∧ FitAll ts x
  | [], [], [], [], _, _, _, _, _ => ⟨(), ⟨rfl, rfl⟩, trivial⟩
  | t :: ts, i :: is, v :: vs, d :: ds, _, ho, ⟨p, q, hd, hr, _⟩, hv, hw => by
    simp only [okPs, Bool.and_eq_true] at ho
    simp only [DataW.weightsEach, List.all_append, Bool.and_eq_true] at hw
    obtain ⟨fuel, hf⟩ := hd
    obtain ⟨y, hy, fy⟩ := (fit_ok t).1 ho.1.1 ho.1.2 hf hw.1
    obtain ⟨x, hx, fx⟩ := args_fit ho.2 hr (fun j i v hi hv' => hv (j + 1) i v (by simpa using hi) (by simpa using hv')) hw.2
    exact ⟨(y, x), ⟨v, vs, rfl, ⟨_, hy, okWide_agg ho.1.1 ho.1.2 (hv 0 i v rfl rfl)⟩, hx⟩, fy, fx⟩
  | [], _ :: _, _, _, _, h, _, _, _ => by simp [okPs] at h
  | _ :: _, [], _, _, _, h, _, _, _ => by simp [okPs] at h
  | [], [], _ :: _, _, _, _, h, _, _ => by cases ‹List (DataW H)› <;> exact h.elim
  | [], [], [], _ :: _, _, _, h, _, _ => h.elim
  | _ :: _, _ :: _, [], _, _, _, h, _, _ => by cases ‹List (DataW H)› <;> exact h.elim
  | _ :: _, _ :: _, _ :: _, [], _, _, h, _, _ => h.elim

theorem args_back {w' : World} {is : List TypeId} (hl : laidOutB P = true) (hr : (is.all fun t => P.readableRec t && Nat.blt t P.types.size) = true) (hb : ∀ k, k < w.heap.size → w'.heap[k]? = w.heap[k]?) :
    ∀ {vs : List Value} {ds : List (DataW H)} {ps : List MemPlace}, DataW.TrodAll enc P w 0 (fun _ => true) true is vs ds ps → DataW.TrodAll enc P w' 0 (fun b => decide (b < w.heap.size)) true is vs ds ps := by
  induction is with
  | nil => intro vs ds ps h; cases vs <;> cases ds <;> exact h
  | cons i is ih =>
    intro vs ds ps h
    simp only [List.all_cons, Bool.and_eq_true] at hr
    cases vs with
    | nil => cases ds <;> exact h.elim
    | cons v vs =>
      cases ds with
      | nil => exact h.elim
      | cons d ds =>
        obtain ⟨p, q, hd, hrest, e⟩ := h
        have hlt : ∀ x ∈ p, x.block < w.heap.size := by obtain ⟨m, hm⟩ := hd; exact DataW.trod_lt m _ _ _ hm
        refine ⟨p, q, ?_, ih hr.2 hrest, e⟩
        refine WideElems.Trod_stays hl hr.1.1 (by have := hr.1.2; simp only [Nat.blt, Nat.ble_eq] at this; exact this) hd (fun x hx => ?_) (fun x hx => by simpa using hlt x hx)
        cases x with
        | cell b o => exact World.cell?_of_block (w := w) (hb b (hlt _ hx))
        | map b => exact hb b (hlt _ hx)
end

theorem Runs.calls {P : Program} {f : FuncId} {fn : Func} {c : Code} {args : Array Value} {w : World} {R : Value → World → Prop} (h : Runs P f args w R) (hf : P.funcs[f]? = some fn) (hname : (fn.name == "runtime.NumGoroutine") = false) (hc : fn.body = some c) :
    Calls P f args w fun e w' => ∃ x, e = .returned x ∧ R x w' := by
  unfold Runs at h
  have hrun : (callFunc f args).run P w = .ok (.enter f args) w := by
    unfold callFunc
    rw [Sem.run_bind, run_program, Result.andThen_ok, hf]
    simp only [hname, hc, Option.isNone_some, Bool.false_eq_true, if_false]
    rfl
  rw [hrun] at h
  exact h

theorem outRep_v {P : Program} {w : World} {S : Nat → Prop} : ∀ {ts : List Ty} {y : outOf (ts.map PK.v)} {vs : List Value} {O : List Nat}, OutRep P w S (ts.map PK.v) y vs O → O = []
  | [], _, _, _, h => by
    rcases h with ⟨_, h⟩
    exact h
  | _ :: ts, y, _, _, ⟨_, _, _, h⟩ => outRep_v (ts := ts) (y := y) h

/-- A LAW: what the call of a function of plain data that answers a bool shows -/
theorem law_contractX {P : Program} {X : World → Prop} {f : FuncId} {fn : Func} {c : Code} {s : ChangeSpec} {H : Type} {enc : TypeId × Value → H} {ts : List Ty} {lk : Bool} {F : domOf (ts.map PK.v) → Option (resOf [RK.v (.val .bool)] × outOf (ts.map PK.v))} {rt : TypeId} {conds : List PathCond} {a : Assume}
    (hl : laidOutB P = true) (hr : (fn.params.toList.all fun t => P.readableRec t && Nat.blt t P.types.size) = true) (hvars : s.vars = []) (hok : okPs P ts fn.params.toList = true) (hfn : P.funcs[f]? = some fn) (hname : (fn.name == "runtime.NumGoroutine") = false) (hc : fn.body = some c)
    (hs : ∀ W, X W → ∃ G, GS G W (fun c => c < W.heap.size) ∧ Sound P G f ⟨⟨ts.map PK.v, [.v (.val .bool)], lk⟩, F⟩) (hF : ∀ x, FitAll ts x → ∃ o, F x = some ((true, ()), o)) (hspec : ∀ ds : List (DataW H), ds.length = ts.length → s.fn H ds = { results := [.lit (.bool true)], args := ds }) (hrt : fn.resultTypes = #[rt]) (hrb : P.underlying rt = some .bool) :
    ∀ (W : World) (base : Nat) (args : Array Value) (ds gs : List (DataW H)) (before : List MemPlace),
      (∀ (j : Nat) t v, fn.params[j]? = some t → args[j]? = some v → Value.okWide P W .any base t v) →
      DataW.Whole enc P fn.params.toList s.vars false W args.toList ds gs before →
      conds.all (PathCond.test P ⟨fn.params.toList, ds, s.plain.varTypes P, gs⟩) = true →
      (DataW.weightsEach P (fn.params.toList ++ s.plain.varTypes P) (ds ++ gs)).all (· ≤ reachBytes) = true → X W →
      a.holds P (lone (Frame.enter P f args .normal) [] W) →
      Calls P f args W fun e W' => ∃ v, e = .returned v ∧ s.post enc P fn false true false false W args v W' := by
  intro W base args ds gs before hval hW _ hsz hX _
  obtain ⟨G, hG, hs⟩ := hs W hX
  have hW' := hW
  obtain ⟨p, q, hA, hV, rfl, hfz, hnd⟩ := hW
  rw [hvars] at hV
  obtain ⟨rfl, rfl⟩ := ChangeShapes.trodVars_none hV
  have hvt : s.plain.varTypes P = [] := by
    simp [ChangeSpec.plain, DataSpec.varTypes, hvars]
  rw [hvt, List.append_nil, List.append_nil] at hsz
  obtain ⟨x, hx, fx⟩ := args_fit hok hA (fun j i v hi hv => hval j i v (by simpa using hi) (by simpa using hv)) hsz
  obtain ⟨o, ho⟩ := hF x fx
  have hlen : ds.length = ts.length := by
    have h1 : ∀ {is : List TypeId} {vs : List Value} {ds : List (DataW H)} {ps : List MemPlace}, DataW.TrodAll enc P W 0 (fun _ => true) true is vs ds ps → ds.length = is.length := by
      intro is
      induction is with
      | nil => intro vs ds ps h; cases vs <;> cases ds <;> first | rfl | exact h.elim
      | cons i is ih =>
        intro vs ds ps h
        cases vs with
        | nil => cases ds <;> exact h.elim
        | cons v vs =>
          cases ds with
          | nil => exact h.elim
          | cons d ds => obtain ⟨p, q, _, hr, _⟩ := h; simp [ih hr]
    have h2 : ∀ {ts : List Ty} {is : List TypeId}, okPs P ts is = true → is.length = ts.length := by
      intro ts
      induction ts with
      | nil => intro is h; cases is <;> simp_all [okPs]
      | cons t ts ih =>
        intro is h
        cases is with
        | nil => simp [okPs] at h
        | cons i is => simp only [okPs, Bool.and_eq_true] at h; simp [ih h.2]
    rw [h1 hA, h2 hok]
  have hrun := hs.2 W (fun c => c < W.heap.size) [] args.toList x _ hG hx List.nodup_nil (fun c hc => ⟨hc, by simp⟩) (by simp) ho
  rw [Array.toArray_toList] at hrun
  refine (hrun.calls hfn hname hc).mono fun e W' hh => ?_
  obtain ⟨v, rfl, hsame, hkeep, vs, O1, O2, rfl, hnd2, hOO, hres, hout⟩ := hh
  obtain ⟨v1, us, cs, O3, O4, rfl, hval1, ⟨hrep, _⟩, _, hus, _⟩ := hres
  subst hus
  have hcs : cs = [.bool true] := hrep
  subst hcs
  obtain rfl : v1 = .bool true := by
    have : ValOf false [Value.bool true] v1 := hval1
    simpa [ValOf] using this.symm
  have hblk : ∀ k, k < W.heap.size → W'.heap[k]? = W.heap[k]? := fun k hk => hkeep k hk (by simp)
  have e : s.fn H (ds ++ []) = { results := [.lit (.bool true)], args := ds } := by rw [List.append_nil]; exact hspec ds hlen
  refine ⟨_, rfl, ds, [], p ++ [], [], p, [], hW', ?_, ?_, ?_, ?_, fun h => by cases h⟩
  · rw [e, hrt]
    exact ChangeShapes.trodAll_mk1 (RowKit.shut_bool hrb true)
  · rw [e]
    exact args_back hl hr hblk hA
  · rw [e, hvars]
    rfl
  · refine ⟨hsame.1, hsame.2.1, fun i hi => ?_⟩
    rw [hblk i hi]
    split <;> simp_all

/-- the same, where no package variable matters -/
theorem law_contract {P : Program} {f : FuncId} {fn : Func} {c : Code} {s : ChangeSpec} {H : Type} {enc : TypeId × Value → H} {ts : List Ty} {lk : Bool} {F : domOf (ts.map PK.v) → Option (resOf [RK.v (.val .bool)] × outOf (ts.map PK.v))} {rt : TypeId} {conds : List PathCond} {a : Assume}
    (hl : laidOutB P = true) (hr : (fn.params.toList.all fun t => P.readableRec t && Nat.blt t P.types.size) = true) (hvars : s.vars = []) (hok : okPs P ts fn.params.toList = true) (hfn : P.funcs[f]? = some fn) (hname : (fn.name == "runtime.NumGoroutine") = false) (hc : fn.body = some c)
    (hs : Sound P [] f ⟨⟨ts.map PK.v, [.v (.val .bool)], lk⟩, F⟩) (hF : ∀ x, FitAll ts x → ∃ o, F x = some ((true, ()), o)) (hspec : ∀ ds : List (DataW H), ds.length = ts.length → s.fn H ds = { results := [.lit (.bool true)], args := ds }) (hrt : fn.resultTypes = #[rt]) (hrb : P.underlying rt = some .bool) :
    ∀ (W : World) (base : Nat) (args : Array Value) (ds gs : List (DataW H)) (before : List MemPlace),
      (∀ (j : Nat) t v, fn.params[j]? = some t → args[j]? = some v → Value.okWide P W .any base t v) →
      DataW.Whole enc P fn.params.toList s.vars false W args.toList ds gs before →
      conds.all (PathCond.test P ⟨fn.params.toList, ds, s.plain.varTypes P, gs⟩) = true →
      (DataW.weightsEach P (fn.params.toList ++ s.plain.varTypes P) (ds ++ gs)).all (· ≤ reachBytes) = true →
      a.holds P (lone (Frame.enter P f args .normal) [] W) →
      Calls P f args W fun e W' => ∃ v, e = .returned v ∧ s.post enc P fn false true false false W args v W' :=
  fun W base args ds gs before h1 h2 h3 h4 h5 =>
    law_contractX (X := fun _ => True) hl hr hvars hok hfn hname hc (fun _ _ => ⟨[], fun p hp => by simp at hp, hs⟩) hF hspec hrt hrb W base args ds gs before h1 h2 h3 h4 trivial h5

end Go.Tm

namespace Go.Tm
open Go

theorem lookT_all {P : Program} : ∀ {l : List (Nat × Ty)}, (l.all fun p => okTy P p.2 p.1) = true → ∀ i t, lookT l i = some t → okTy P t i = true
  | [], _, i, t, h => by simp [lookT] at h
  | (j, u) :: r, hl, i, t, h => by
    simp only [List.all_cons, Bool.and_eq_true] at hl
    simp only [lookT] at h
    cases hb : Nat.beq j i with
    | true =>
      rw [hb] at h
      simp only [cond_true, Option.some.injEq] at h
      rw [← Nat.eq_of_beq_eq_true hb, ← h]
      exact hl.1
    | false =>
      rw [hb] at h
      exact lookT_all hl.2 i t h
def eqsB (P : Program) (l : List (Nat × Ty)) (es : List Nat) : Bool := es.all fun i => match lookT l i with
  | some t => eqTy P t i && !(P.eqGuardType P.depth i) && Nat.ble t.deep 10000
  | none => true
def AllS (P : Program) (G : List (Nat × Obj)) : List (Nat × Entry) → Prop
  | [] => True
  | (i, e) :: r => Sound P G i e ∧ AllS P G r
theorem lookF_all {P : Program} {G : List (Nat × Obj)} : ∀ {l : List (Nat × Entry)}, AllS P G l → ∀ f e, lookF l f = some e → Sound P G f e
  | [], _, f, e, h => by simp [lookF] at h
  | (j, u) :: r, hl, i, t, h => by
    simp only [lookF] at h
    cases hb : Nat.beq j i with
    | true =>
      rw [hb] at h
      simp only [cond_true, Option.some.injEq] at h
      rw [← Nat.eq_of_beq_eq_true hb, ← h]
      exact hl.1
    | false =>
      rw [hb] at h
      exact lookF_all hl.2 i t h

def AllP (P : Program) : List (Nat × PrimD) → Prop
  | [] => True
  | (i, e) :: r => PrimS P i e ∧ AllP P r
theorem lookP_all {P : Program} : ∀ {l : List (Nat × PrimD)}, AllP P l → ∀ f e, lookP l f = some e → PrimS P f e
  | [], _, f, e, h => by simp [lookP] at h
  | (j, u) :: r, hl, i, t, h => by
    simp only [lookP] at h
    cases hb : Nat.beq j i with
    | true =>
      rw [hb] at h
      simp only [cond_true, Option.some.injEq] at h
      rw [← Nat.eq_of_beq_eq_true hb, ← h]
      exact hl.1
    | false =>
      rw [hb] at h
      exact lookP_all hl.2 i t h

/-- the tables of a translation -/
theorem env_s {P : Program} {l : List (Nat × Ty)} {es : List Nat} {fs : List (Nat × Entry)} {ps : List (Nat × PrimD)} {G : List (Nat × Obj)} (h1 : (l.all fun p => okTy P p.2 p.1) = true) (h2 : eqsB P l es = true) (h3 : P.follows .mixedOrders = true) (h4 : AllS P G fs) (h5 : AllP P ps) :
    EnvT { P := P, tys := lookT l, fns := lookF fs, eqs := es, prims := lookP ps, G := G } := by
  refine ⟨⟨lookT_all h1, fun i hi t ht => ?_⟩, h3, lookF_all h4, lookP_all h5, fun f e h => by cases h⟩
  have h := List.all_eq_true.1 h2 i (memN_iff.1 hi)
  have ht : lookT l i = some t := ht
  rw [ht] at h
  simp only [Bool.and_eq_true, Bool.not_eq_true', Nat.ble_eq] at h
  exact ⟨h.1.1, h.1.2, h.2⟩

def AllE (P : Program) : List (Nat × EatD) → Prop
  | [] => True
  | (i, e) :: r => EatS P i e ∧ AllE P r
theorem lookE_all {P : Program} : ∀ {l : List (Nat × EatD)}, AllE P l → ∀ f e, lookE l f = some e → EatS P f e
  | [], _, f, e, h => by simp [lookE] at h
  | (j, u) :: r, hl, i, t, h => by
    simp only [lookE] at h
    cases hb : Nat.beq j i with
    | true =>
      rw [hb] at h
      simp only [cond_true, Option.some.injEq] at h
      rw [← Nat.eq_of_beq_eq_true hb, ← h]
      exact hl.1
    | false =>
      rw [hb] at h
      exact lookE_all hl.2 i t h

/-- the tables of a translation, with functions that take their box for good -/
theorem env_e {P : Program} {l : List (Nat × Ty)} {es : List Nat} {fs : List (Nat × Entry)} {ps : List (Nat × PrimD)} {G : List (Nat × Obj)} {ts : List (Nat × EatD)} (h1 : (l.all fun p => okTy P p.2 p.1) = true) (h2 : eqsB P l es = true) (h3 : P.follows .mixedOrders = true) (h4 : AllS P G fs) (h5 : AllP P ps) (h6 : AllE P ts) :
    EnvT { P := P, tys := lookT l, fns := lookF fs, eqs := es, prims := lookP ps, G := G, eats := lookE ts } := by
  have h := env_s (G := G) h1 h2 h3 h4 h5
  exact ⟨⟨h.ok.tys, h.ok.eqs⟩, h.mixed, h.fns, h.prims, lookE_all h6⟩

end Go.Tm
