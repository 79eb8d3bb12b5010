/- Functions of the program and of the reference in plain terms. -/
import Derived.Test.YtdmaamakckochaaGreatDoorP12
namespace Go.Proofs.YtdmaamakckochaaGreatDoor
open Go Go.Tm
set_option linter.unusedVariables false
set_option linter.unusedSimpArgs false
set_option linter.unusedSectionVars false
/-! ### the reference's reading of a log -/
def okL (l : DLog) : DRL := ((l, 0, ()), ())
def readR (s : List UInt8) (w : DRL) : Prop := w = badL ∨ ∃ l : DLog, w = okL l ∧ logB l = true ∧ goodL l ∧ s = logT l

theorem sEq_iff {a b : List UInt8} : sEq a b = true ↔ a = b := by simp [sEq]

theorem l17_same2 : spec_ReadLog_l17_2 = spec_ReadLog_l17 := rfl
theorem l17_same3 : spec_ReadLog_l17_3 = spec_ReadLog_l17 := rfl

/-- the entries' part: some answer, and a good one -/
theorem spec_l17_total {Ls : List (List UInt8)} {s : List UInt8} (hl : Ls.length ≤ 1048577) (hall : ∀ f ∈ Ls, f.length ≤ 1048576) {a : Int} {v : Vec 3 Nat} {B : List (Vec 3 Nat)} (hv : goodV v) (hB : ∀ u ∈ B, goodV u) {i : Nat} (hi : i ≤ Ls.length) (hBi : B.length ≤ i) :
    ∃ w : DRL, run (spec_ReadLog_l17 ((Ls, ()), ()) s) ((i : Int), ((a, v, B, [], ()) : DLog), ()) = some w ∧ readR s w := by
  refine run_inv (f := spec_ReadLog_l17 ((Ls, ()), ()) s) (fun st => ∃ (i : Nat) (E : List DEntry), st = ((i : Int), ((a, v, B, E, ()) : DLog), ()) ∧ i ≤ Ls.length ∧ E.length ≤ i ∧ B.length ≤ i ∧ ∀ e ∈ E, goodE e) (fun st => (Ls.length - st.1).toNat) (fun w => readR s w) (fun st hI => ?_)
    (s := ((i : Int), ((a, v, B, [], ()) : DLog), ())) ⟨i, [], rfl, hi, Nat.zero_le _, hBi, fun e he => by cases he⟩
  obtain ⟨i, E, rfl, hi, hEi, hBi, hE⟩ := hI
  have e5 : iAdd .i64 (i : Int) 1 = ((i + 1 : Nat) : Int) := (iAdd_eq (by omega) (by omega)).trans (by omega)
  by_cases hlt : i + 1 < Ls.length
  · have e1 : iLt (iAdd .i64 (i : Int) 1) (lenI Ls) = true := by rw [e5]; exact iLt_pos (by rw [lenI_eq]; omega)
    have e2 : inB (i : Int) Ls.length = true := inB_pos (by omega)
    have hg : List.getD Ls (i : Int).toNat [] = Ls[i] := by rw [Int.toNat_natCast]; exact getD_of (by omega)
    obtain ⟨e, b, k1, k2, -⟩ := spec_l08Read_ok (hall _ (List.getElem_mem (show i < Ls.length by omega)))
    have hr2 : room (E.length + 1) 48 = true := room_pos (by omega)
    unfold spec_ReadLog_l17
    simp only
    rw [e1, e2, hg, k1]
    simp only [cond_true, Option.bind_some]
    cases hb : b with
    | false => exact .inr ⟨badL, rfl, .inl rfl⟩
    | true =>
      simp only [Bool.not_true, cond_false]
      rw [hr2, e5]
      refine .inl ⟨_, rfl, ⟨i + 1, E ++ [e], rfl, by omega, by simp; omega, by omega, fun z hz => ?_⟩, ?_⟩
      · rcases List.mem_append.1 hz with h | h
        · exact hE z h
        · rw [List.mem_singleton] at h; rw [h]; exact k2 hb
      · show ((Ls.length : Int) - ((i + 1 : Nat) : Int)).toNat < ((Ls.length : Int) - (i : Int)).toNat
        omega
  · have e1 : iLt (iAdd .i64 (i : Int) 1) (lenI Ls) = false := by rw [e5]; exact iLt_neg (by rw [lenI_eq]; omega)
    have hvl := spec_l08Log_ok ((a, v, B, E, ()) : DLog) (sized_log (by omega) (by omega))
    right
    unfold spec_ReadLog_l17
    simp only
    rw [e1, hvl]
    simp only [cond_false, Option.bind_some]
    cases hb : logB ((a, v, B, E, ()) : DLog) with
    | false => exact ⟨badL, rfl, .inl rfl⟩
    | true =>
      have hgl : goodL ((a, v, B, E, ()) : DLog) := ⟨hv, hB, hE⟩
      have ht := spec_l08Text_ok hb hgl
      simp only [Bool.not_true, cond_false]
      rw [ht]
      simp only [Option.bind_some]
      cases hs : sEq (logT ((a, v, B, E, ()) : DLog)) s with
      | false => exact ⟨badL, rfl, .inl rfl⟩
      | true => exact ⟨_, rfl, .inr ⟨(a, v, B, E, ()), rfl, hb, hgl, (sEq_iff.1 hs).symm⟩⟩

theorem map_inr {σ A : Type} {X : Option A} {a : A} (h : X = some a) : (Option.map Sum.inr X : Option (σ ⊕ A)) = some (.inr a) := by rw [h]; rfl

theorem spec_l11_total {Ls : List (List UInt8)} {s : List UInt8} (hl : Ls.length ≤ 1048577) (hall : ∀ f ∈ Ls, f.length ≤ 1048576) {a : Int} {v : Vec 3 Nat} (hv : goodV v) (h1 : 1 ≤ Ls.length) :
    ∃ w : DRL, run (spec_ReadLog_l11 ((Ls, ()), ()) s) ((1 : Int), ((a, v, [], [], ()) : DLog), ()) = some w ∧ readR s w := by
  refine run_inv (f := spec_ReadLog_l11 ((Ls, ()), ()) s) (fun st => ∃ (i : Nat) (B : List (Vec 3 Nat)), st = ((i : Int), ((a, v, B, [], ()) : DLog), ()) ∧ i ≤ Ls.length ∧ B.length ≤ i ∧ ∀ e ∈ B, goodV e) (fun st => (Ls.length - st.1).toNat) (fun w => readR s w) (fun st hI => ?_)
    (s := ((1 : Int), ((a, v, [], [], ()) : DLog), ())) ⟨1, [], rfl, h1, Nat.zero_le _, fun e he => by cases he⟩
  obtain ⟨i, B, rfl, hi, hBi, hB⟩ := hI
  obtain ⟨w, hw, hR⟩ := spec_l17_total (s := s) (a := a) hl hall hv hB hi hBi
  have e5 : iAdd .i64 (i : Int) 1 = ((i + 1 : Nat) : Int) := (iAdd_eq (by omega) (by omega)).trans (by omega)
  by_cases hlt : i + 1 < Ls.length
  · have e1 : iLt (iAdd .i64 (i : Int) 1) (lenI Ls) = true := by rw [e5]; exact iLt_pos (by rw [lenI_eq]; omega)
    have e2 : inB (i : Int) Ls.length = true := inB_pos (by omega)
    have hg : List.getD Ls (i : Int).toNat [] = Ls[i] := by rw [Int.toNat_natCast]; exact getD_of (by omega)
    have hll : (Ls[i]).length ≤ 1048576 := hall _ (List.getElem_mem (show i < Ls.length by omega))
    unfold spec_ReadLog_l11
    simp only
    rw [e1, e2, hg]
    simp only [cond_true]
    by_cases h7 : 7 < (Ls[i]).length
    · have e3 : iLt 7 (lenI Ls[i]) = true := iLt_pos (by rw [lenI_eq]; omega)
      have e4 : inS 0 7 (Ls[i]).length = true := by unfold inS; simp; omega
      have e6 : inS 7 (lenI Ls[i]) (Ls[i]).length = true := by unfold inS lenI; simp; omega
      rw [e3, e4]
      simp only [cond_true]
      cases hbw : sEq (takeL Ls[i] 7) [98, 101, 97, 99, 111, 110, 32] with
      | false => exact .inr ⟨w, map_inr hw, hR⟩
      | true =>
        rw [e6]
        simp only [cond_true]
        obtain ⟨u, b, k1, k2, -⟩ := spec_l01ReadVec_ok (s := dropL Ls[i] 7) (by unfold dropL; rw [List.length_drop]; omega)
        rw [k1]
        simp only [Option.bind_some]
        cases hb : b with
        | false => exact .inr ⟨badL, rfl, .inl rfl⟩
        | true =>
          have hr1 : room (B.length + 1) 12 = true := room_pos (by omega)
          simp only [Bool.not_true, cond_false]
          rw [hr1, e5]
          refine .inl ⟨_, rfl, ⟨i + 1, B ++ [u], rfl, by omega, by simp; omega, fun z hz => ?_⟩, ?_⟩
          · rcases List.mem_append.1 hz with h | h
            · exact hB z h
            · rw [List.mem_singleton] at h; rw [h]; exact k2 hb
          · show ((Ls.length : Int) - ((i + 1 : Nat) : Int)).toNat < ((Ls.length : Int) - (i : Int)).toNat
            omega
    · have e3 : iLt 7 (lenI Ls[i]) = false := iLt_neg (by rw [lenI_eq]; omega)
      rw [e3]
      exact .inr ⟨w, map_inr hw, hR⟩
  · have e1 : iLt (iAdd .i64 (i : Int) 1) (lenI Ls) = false := by rw [e5]; exact iLt_neg (by rw [lenI_eq]; omega)
    unfold spec_ReadLog_l11
    simp only
    rw [e1]
    exact .inr ⟨w, map_inr hw, hR⟩

/-- a written log is read back: its entries -/
theorem spec_l17_back {Ls : List (List UInt8)} {s : List UInt8} {a : Int} {v : Vec 3 Nat} {B0 : List (Vec 3 Nat)} {E0 : List DEntry} (hLs : Ls = logL (a, v, B0, E0, ()) ++ [[]]) (hv : logB (a, v, B0, E0, ()) = true) (hg : goodL (a, v, B0, E0, ())) (hs : s = logT (a, v, B0, E0, ())) (hall : ∀ f ∈ Ls, f.length ≤ 1048576) :
    run (spec_ReadLog_l17 ((Ls, ()), ()) s) (((1 + B0.length : Nat) : Int), ((a, v, B0, [], ()) : DLog), ()) = some (okL (a, v, B0, E0, ())) := by
  have hv' := hv
  unfold logB frameB at hv'
  simp only [Bool.and_eq_true, List.all_eq_true, iLe_true, lenI_eq] at hv'
  obtain ⟨⟨-, -, hb6, -⟩, he1200, heach⟩ := hv'
  have hlen : Ls.length = B0.length + E0.length + 2 := by rw [hLs]; simp [logL]; omega
  have phase : ∀ (d j : Nat), j + d = E0.length → run (spec_ReadLog_l17 ((Ls, ()), ()) s) (((1 + B0.length + j : Nat) : Int), ((a, v, B0, E0.take j, ()) : DLog), ()) = some (okL (a, v, B0, E0, ())) := by
    intro d
    induction d with
    | zero =>
      intro j hj
      have e5 : iAdd .i64 ((1 + B0.length + j : Nat) : Int) 1 = ((1 + B0.length + j + 1 : Nat) : Int) := (iAdd_eq (by omega) (by omega)).trans (by omega)
      have e1 : iLt (iAdd .i64 ((1 + B0.length + j : Nat) : Int) 1) (lenI Ls) = false := by rw [e5]; exact iLt_neg (by rw [lenI_eq]; omega)
      have ht : E0.take j = E0 := by rw [show j = E0.length by omega, List.take_length]
      have hvl := spec_l08Log_ok ((a, v, B0, E0, ()) : DLog) (sized_log (by omega) (by omega))
      have htx := spec_l08Text_ok hv hg
      refine run_done ?_
      unfold spec_ReadLog_l17
      simp only
      rw [e1, ht, hvl]
      simp only [cond_false, Option.bind_some, hv, Bool.not_true]
      rw [htx]
      simp only [Option.bind_some]
      rw [sEq_iff.2 hs.symm]
      rfl
    | succ d ih =>
      intro j hj
      have hjE : j < E0.length := by omega
      have e5 : iAdd .i64 ((1 + B0.length + j : Nat) : Int) 1 = ((1 + B0.length + (j + 1) : Nat) : Int) := (iAdd_eq (by omega) (by omega)).trans (by omega)
      have e1 : iLt (iAdd .i64 ((1 + B0.length + j : Nat) : Int) 1) (lenI Ls) = true := by rw [e5]; exact iLt_pos (by rw [lenI_eq]; omega)
      have e2 : inB ((1 + B0.length + j : Nat) : Int) Ls.length = true := inB_pos (by omega)
      have hg1 : List.getD Ls ((1 + B0.length + j : Nat) : Int).toNat [] = Ls[1 + B0.length + j]'(by omega) := by rw [Int.toNat_natCast]; exact getD_of (by omega)
      have hline : Ls[1 + B0.length + j]'(by omega) = entL E0[j] := by
        subst hLs
        have : 1 + B0.length + j < (logL (a, v, B0, E0, ())).length := by simp [logL]; omega
        rw [List.getElem_append_left this]
        unfold logL
        have h1 : 1 + B0.length + j = (B0.length + j) + 1 := by omega
        simp only [h1, List.getElem_cons_succ]
        rw [List.getElem_append_right (by simp)]
        simp
      obtain ⟨e, b, k1, -, k3⟩ := spec_l08Read_ok (hall _ (List.getElem_mem (show 1 + B0.length + j < Ls.length by omega)))
      obtain ⟨rfl, rfl⟩ := k3 E0[j] (lenI B0) (by rw [lenI_eq]; omega) (by rw [lenI_eq]; omega) (heach _ (List.getElem_mem hjE)) (hg.2.2 _ (List.getElem_mem hjE)) hline
      have hr2 : room ((E0.take j).length + 1) 48 = true := room_pos (by rw [List.length_take]; omega)
      have st : spec_ReadLog_l17 ((Ls, ()), ()) s (((1 + B0.length + j : Nat) : Int), ((a, v, B0, E0.take j, ()) : DLog), ()) = some (.inl (((1 + B0.length + (j + 1) : Nat) : Int), ((a, v, B0, E0.take (j + 1), ()) : DLog), ())) := by
        unfold spec_ReadLog_l17
        simp only
        rw [e1, e2, hg1, k1]
        simp only [cond_true, Option.bind_some, Bool.not_true, cond_false, hr2]
        rw [e5, take_succ_getElem hjE]
      rw [run_step st]
      exact ih (j + 1) (by omega)
  have := phase E0.length 0 (by omega)
  rw [Nat.add_zero, List.take_zero] at this
  exact this

theorem entL_head {n : Int} {e : DEntry} (h : entryB n e = true) : ∃ c r, entL e = c :: r ∧ c ≠ 98 := by
  rcases entry_kind h with h | ⟨u, h, -⟩ | ⟨c, h⟩ | ⟨k, q, h, -⟩
  · rw [entL_one (congrArg (fun z : DEntry => z.1) h)]; exact ⟨_, _, rfl, by decide⟩
  · rw [entL_two (congrArg (fun z : DEntry => z.1) h)]; exact ⟨_, _, rfl, by decide⟩
  · rw [entL_three (congrArg (fun z : DEntry => z.1) h)]; exact ⟨_, _, rfl, by decide⟩
  · rw [entL_four (congrArg (fun z : DEntry => z.1) h)]; exact ⟨_, _, rfl, by decide⟩

theorem spec_l11_back {Ls : List (List UInt8)} {s : List UInt8} {a : Int} {v : Vec 3 Nat} {B0 : List (Vec 3 Nat)} {E0 : List DEntry} (hLs : Ls = logL (a, v, B0, E0, ()) ++ [[]]) (hv : logB (a, v, B0, E0, ()) = true) (hg : goodL (a, v, B0, E0, ())) (hs : s = logT (a, v, B0, E0, ())) (hall : ∀ f ∈ Ls, f.length ≤ 1048576) :
    run (spec_ReadLog_l11 ((Ls, ()), ()) s) ((1 : Int), ((a, v, [], [], ()) : DLog), ()) = some (okL (a, v, B0, E0, ())) := by
  have h17 := spec_l17_back hLs hv hg hs hall
  have hv' := hv
  unfold logB frameB at hv'
  simp only [Bool.and_eq_true, List.all_eq_true, iLe_true, lenI_eq] at hv'
  obtain ⟨⟨-, -, hb6, -⟩, he1200, heach⟩ := hv'
  have hlen : Ls.length = B0.length + E0.length + 2 := by rw [hLs]; simp [logL]; omega
  have phase : ∀ (d i : Nat), i + d = B0.length → run (spec_ReadLog_l11 ((Ls, ()), ()) s) (((1 + i : Nat) : Int), ((a, v, B0.take i, [], ()) : DLog), ()) = some (okL (a, v, B0, E0, ())) := by
    intro d
    induction d with
    | zero =>
      intro i hi
      have ht : B0.take i = B0 := by rw [show i = B0.length by omega, List.take_length]
      rw [ht, show i = B0.length by omega]
      refine run_done ?_
      have e5 : iAdd .i64 ((1 + B0.length : Nat) : Int) 1 = ((1 + B0.length + 1 : Nat) : Int) := (iAdd_eq (by omega) (by omega)).trans (by omega)
      cases hE0 : E0 with
      | nil =>
        have e1 : iLt (iAdd .i64 ((1 + B0.length : Nat) : Int) 1) (lenI Ls) = false := by rw [e5]; exact iLt_neg (by rw [lenI_eq, hlen, hE0]; simp; omega)
        unfold spec_ReadLog_l11
        simp only
        rw [e1]
        exact map_inr (hE0 ▸ h17)
      | cons z0 E1 =>
        have hEl : 0 < E0.length := by rw [hE0]; simp
        have e1 : iLt (iAdd .i64 ((1 + B0.length : Nat) : Int) 1) (lenI Ls) = true := by rw [e5]; exact iLt_pos (by rw [lenI_eq]; omega)
        have e2 : inB ((1 + B0.length : Nat) : Int) Ls.length = true := inB_pos (by omega)
        have hg1 : List.getD Ls ((1 + B0.length : Nat) : Int).toNat [] = entL z0 := by
          rw [Int.toNat_natCast, getD_of (show 1 + B0.length < Ls.length by omega)]
          subst hLs
          have : 1 + B0.length < (logL (a, v, B0, E0, ())).length := by simp [logL]; omega
          rw [List.getElem_append_left this]
          unfold logL
          have h1 : 1 + B0.length = B0.length + 1 := by omega
          simp only [h1, List.getElem_cons_succ]
          rw [List.getElem_append_right (by simp)]
          simp [hE0]
        obtain ⟨c, r, hcr, hc⟩ := entL_head (heach z0 (by rw [hE0]; simp))
        rw [← hE0]
        unfold spec_ReadLog_l11
        simp only
        rw [e1, e2, hg1]
        simp only [cond_true]
        cases h7 : iLt 7 (lenI (entL z0)) with
        | false => exact map_inr h17
        | true =>
          have e4 : inS 0 7 (entL z0).length = true := by
            have : (7 : Int) < lenI (entL z0) := by simpa [iLt] using h7
            rw [lenI_eq] at this
            unfold inS; simp; omega
          have hne : sEq (takeL (entL z0) 7) [98, 101, 97, 99, 111, 110, 32] = false := by
            refine sEq_neL fun h => hc ?_
            rw [hcr] at h
            have : (c :: r).take 7 = [98, 101, 97, 99, 111, 110, 32] := h
            rw [List.take_succ_cons] at this
            exact (List.cons.inj this).1
          simp only [cond_true]
          rw [e4, hne]
          exact map_inr h17
    | succ d ih =>
      intro i hi
      have hiB : i < B0.length := by omega
      have e5 : iAdd .i64 ((1 + i : Nat) : Int) 1 = ((1 + (i + 1) : Nat) : Int) := (iAdd_eq (by omega) (by omega)).trans (by omega)
      have e1 : iLt (iAdd .i64 ((1 + i : Nat) : Int) 1) (lenI Ls) = true := by rw [e5]; exact iLt_pos (by rw [lenI_eq]; omega)
      have e2 : inB ((1 + i : Nat) : Int) Ls.length = true := inB_pos (by omega)
      have hg1 : List.getD Ls ((1 + i : Nat) : Int).toNat [] = beaL B0[i] := by
        rw [Int.toNat_natCast, getD_of (show 1 + i < Ls.length by omega)]
        subst hLs
        have : 1 + i < (logL (a, v, B0, E0, ())).length := by simp [logL]; omega
        rw [List.getElem_append_left this]
        unfold logL
        have h1 : 1 + i = i + 1 := by omega
        simp only [h1, List.getElem_cons_succ]
        rw [List.getElem_append_left (by simpa using hiB)]
        simp
      have hbl := beaL_eq B0[i]
      have hvl := vecT_length B0[i]
      have hblen : (beaL B0[i]).length = 33 := by rw [hbl]; simp [wBea, hvl]
      have htk : takeL (beaL B0[i]) 7 = [98, 101, 97, 99, 111, 110, 32] := by rw [hbl]; rfl
      have hdr : dropL (beaL B0[i]) 7 = joinC 32 (vecW B0[i]) := by rw [hbl, ← vecT_join]; rfl
      have e3 : iLt 7 (lenI (beaL B0[i])) = true := iLt_pos (by rw [lenI_eq, hblen]; decide)
      have e4 : inS 0 7 (beaL B0[i]).length = true := by rw [hblen]; rfl
      have e6 : inS 7 (lenI (beaL B0[i])) (beaL B0[i]).length = true := by unfold lenI; rw [hblen]; rfl
      have hbw : sEq (takeL (beaL B0[i]) 7) [98, 101, 97, 99, 111, 110, 32] = true := sEq_iff.2 htk
      obtain ⟨u, b, k1, -, k3⟩ := spec_l01ReadVec_ok (s := dropL (beaL B0[i]) 7) (by unfold dropL; rw [List.length_drop, hblen]; decide)
      obtain ⟨rfl, rfl⟩ := k3 B0[i] (hg.2.1 _ (List.getElem_mem hiB)) hdr
      have hr1 : room ((B0.take i).length + 1) 12 = true := room_pos (by rw [List.length_take]; omega)
      have st : spec_ReadLog_l11 ((Ls, ()), ()) s (((1 + i : Nat) : Int), ((a, v, B0.take i, [], ()) : DLog), ()) = some (.inl (((1 + (i + 1) : Nat) : Int), ((a, v, B0.take (i + 1), [], ()) : DLog), ())) := by
        unfold spec_ReadLog_l11
        simp only
        rw [e1, e2, hg1]
        simp only [cond_true]
        rw [e3, e4, hbw, e6, k1]
        simp only [cond_true, Option.bind_some, Bool.not_true, cond_false, hr1]
        rw [e5, take_succ_getElem hiB]
      rw [run_step st]
      exact ih (i + 1) (by omega)
  exact phase B0.length 0 (by omega)

theorem spec_ReadLog_ok {s : List UInt8} (hs : s.length ≤ 1048576) : ∃ w : DRL, spec_ReadLog s = some w ∧ readR s w ∧ (∀ l : DLog, s = logT l → logB l = true → goodL l → w = okL l) := by
  have hsp : spec_l01Split s 10 = some ((splitC 10 s, ()), ()) := spec_l01Split_ok 10 hs
  have hlen : (splitC 10 s).length ≤ 1048577 := splitC_lenL hs
  have hall : ∀ f ∈ splitC 10 s, f.length ≤ 1048576 := fun f hf => Nat.le_trans (splitC_memL hf) hs
  obtain ⟨x, Ls, h1⟩ : ∃ x Ls, splitC 10 s = x :: Ls := by
    cases h : splitC 10 s with
    | nil => exact absurd h (splitC_ne 10 s)
    | cons x Ls => exact ⟨x, Ls, rfl⟩
  have hx : x.length ≤ 1048576 := hall x (by rw [h1]; simp)
  have hsp2 : spec_l01Split x 32 = some ((splitC 32 x, ()), ()) := spec_l01Split_ok 32 hx
  have hlenx := splitC_lenL (c := 32) hx
  -- what a written log's text says
  have said : ∀ l : DLog, s = logT l → x :: Ls = logL l ++ [[]] ∧ splitC 32 x = wLog :: Lib.itoa l.1 :: vecW l.2.1 := by
    intro l hl
    have h3 := logT_split l
    rw [← hl, h1] at h3
    refine ⟨h3, ?_⟩
    have h5 : x = headL l.1 l.2.1 := (List.cons.inj h3).1
    rw [h5]
    exact split_join 32 _ (by simp) (headW_free (.inl rfl) _ _)
  have i0 : inB 0 (x :: Ls).length = true := inB_pos (i := 0) (by simp)
  have bad : ∀ (no : ∀ l : DLog, s = logT l → logB l = true → goodL l → False), ∃ w : DRL, (some badL : Option DRL) = some w ∧ readR s w ∧ (∀ l : DLog, s = logT l → logB l = true → goodL l → w = okL l) :=
    fun no => ⟨badL, rfl, .inl rfl, fun l h2 h3 h4 => (no l h2 h3 h4).elim⟩
  unfold spec_ReadLog
  rw [hsp]
  simp only [Option.bind_some]
  rw [h1, i0]
  have g0 : List.getD (x :: Ls) 0 [] = x := rfl
  rw [g0, hsp2]
  simp only [cond_true, Option.bind_some]
  cases h5 : iEq (lenI (splitC 32 x)) 5 with
  | false =>
    refine bad fun l hl _ _ => ?_
    rw [(said l hl).2] at h5
    cases h5
  | true =>
    have hl5 : (splitC 32 x).length = 5 := by
      have : ((splitC 32 x).length : Int) = 5 := by simpa [iEq, lenI] using h5
      omega
    obtain ⟨w0, w1, w2, w3, w4, hw⟩ : ∃ w0 w1 w2 w3 w4, splitC 32 x = [w0, w1, w2, w3, w4] := by
      match splitC 32 x, hl5 with
      | [w0, w1, w2, w3, w4], _ => exact ⟨w0, w1, w2, w3, w4, rfl⟩
    rw [hw] at said ⊢
    have j0 : inB 0 ([w0, w1, w2, w3, w4] : List (List UInt8)).length = true := rfl
    have j1 : inB 1 ([w0, w1, w2, w3, w4] : List (List UInt8)).length = true := rfl
    have j2 : inS 2 (([w0, w1, w2, w3, w4] : List (List UInt8)).length : Nat) ([w0, w1, w2, w3, w4] : List (List UInt8)).length = true := rfl
    have d0 : List.getD [w0, w1, w2, w3, w4] 0 [] = w0 := rfl
    have d1 : List.getD [w0, w1, w2, w3, w4] 1 [] = w1 := rfl
    have d2 : List.take (([w0, w1, w2, w3, w4] : List (List UInt8)).length - 2) (List.drop 2 [w0, w1, w2, w3, w4]) = [w2, w3, w4] := rfl
    simp only [Bool.not_true, cond_false]
    rw [j0, d0]
    simp only [cond_true]
    cases hlog : sEq w0 [108, 111, 103] with
    | false =>
      refine bad fun l hl _ _ => ?_
      have := (List.cons.inj (said l hl).2).1
      rw [this] at hlog
      cases hlog
    | true =>
      have hsub : iSub .i64 (lenI (x :: Ls)) 1 = ((Ls.length : Nat) : Int) := by
        rw [iSub_eq (by rw [lenI_eq, List.length_cons]; omega) (by rw [lenI_eq]; rw [h1] at hlen; omega), lenI_eq, List.length_cons]; omega
      have i1 : inB ((Ls.length : Nat) : Int) (x :: Ls).length = true := inB_pos (by simp)
      simp only [Bool.not_true, cond_false]
      rw [hsub, i1, Int.toNat_natCast]
      simp only [cond_true]
      cases hlast : sEq (List.getD (x :: Ls) Ls.length []) [] with
      | false =>
        refine bad fun l hl _ _ => ?_
        have h3 := (said l hl).1
        have h4 : Ls.length = (logL l).length := by
          have := congrArg List.length h3
          simpa using this
        rw [h3, h4] at hlast
        rw [getD_of (by simp)] at hlast
        rw [List.getElem_append_right (Nat.le_refl _)] at hlast
        simp [sEq] at hlast
      | true =>
        simp only [Bool.not_true, cond_false]
        rw [j1, d1, j2, d2]
        simp only [cond_true]
        obtain ⟨n, b, hn⟩ : ∃ n b, spec_l01Number w1 = some ((n, b, ()), ()) := by
          rcases spec_l01Number_ok w1 with h | ⟨-, n, h⟩
          · cases hk : numOK 999999999 w1 with
            | true => rw [hk] at h; exact ⟨_, _, h⟩
            | false => rw [hk] at h; exact ⟨_, _, h⟩
          · exact ⟨_, _, h⟩
        obtain ⟨L, b2, k1, k2, k3⟩ := numbers_ok (ws := [w2, w3, w4]) (by simp)
        rw [hn, k1]
        simp only [Option.bind_some]
        -- what a written log says of these
        have back : ∀ l : DLog, s = logT l → logB l = true → goodL l → n = l.1 ∧ b = true ∧ b2 = true ∧ L = [l.2.1.1, l.2.1.2.1, l.2.1.2.2.1] := by
          intro l hl hb hg
          have h3 := (said l hl).2
          simp only [vecW, List.cons.injEq, and_true] at h3
          obtain ⟨-, h4, h6, h7, h8⟩ := h3
          have hb' := hb
          unfold logB frameB at hb'
          simp only [Bool.and_eq_true, iLe_true] at hb'
          have hnum := number_itoa (n := l.1) (by omega) (by omega) h4
          rw [hn] at hnum
          have hq := Option.some.inj hnum
          have q1 : n = l.1 := congrArg (fun z : (Int × Bool × Unit) × Unit => z.1.1) hq
          have q2 : b = true := congrArg (fun z : (Int × Bool × Unit) × Unit => z.1.2.1) hq
          obtain ⟨q3, q4⟩ := k3 [l.2.1.1, l.2.1.2.1, l.2.1.2.2.1] (fun a ha => by
            simp only [List.mem_cons, List.mem_nil_iff, or_false] at ha
            rcases ha with rfl | rfl | rfl
            · exact hg.1.1
            · exact hg.1.2.1
            · exact hg.1.2.2) (by rw [h6, h7, h8]; rfl)
          exact ⟨q1, q2, q3, q4⟩
        cases hb : b with
        | false =>
          refine bad fun l hl h2 h3 => ?_
          have := (back l hl h2 h3).2.1
          rw [hb] at this; cases this
        | true =>
          cases hb2 : b2 with
          | false =>
            refine bad fun l hl h2 h3 => ?_
            have := (back l hl h2 h3).2.2.1
            rw [hb2] at this; cases this
          | true =>
            obtain ⟨kl, kg, -⟩ := k2 hb2
            obtain ⟨y0, y1, y2, rfl⟩ := three_list (L := L) kl
            have hgv : goodV ((y0, y1, y2, ()) : Vec 3 Nat) := ⟨kg y0 (by simp), kg y1 (by simp), kg y2 (by simp)⟩
            rw [h1] at hlen hall
            obtain ⟨w, hw1, hw2⟩ := spec_l11_total (s := s) (a := n) hlen hall hgv (by simp)
            refine ⟨w, hw1, hw2, fun l hl h2 h3 => ?_⟩
            obtain ⟨q1, -, -, q4⟩ := back l hl h2 h3
            obtain ⟨la, ⟨v0, v1, v2, ⟨⟩⟩, lB, lE, ⟨⟩⟩ := l
            simp only [List.cons.injEq, and_true] at q1 q4
            obtain ⟨rfl, rfl, rfl⟩ := q4
            subst q1
            have := spec_l11_back (said _ hl).1 h2 h3 hl hall
            rw [hw1] at this
            exact Option.some.inj this

/-! ### the law -/
theorem readLog_same {s : List UInt8} (hs : s.length ≤ 1048576) : ∃ w : DRL, spec_ReadLog s = some w ∧ impl_ReadLog s = some w ∧ Sized TyLog w.1.1 := by
  obtain ⟨w, h1, h2, h3⟩ := spec_ReadLog_ok hs
  obtain ⟨w', h4, h5, h6⟩ := impl_ReadLog_ok hs
  have hsz : Sized TyLog ((0, (0, 0, 0, ()), [], [], ()) : DLog) := sized_log (by simp) (by simp)
  rcases h2 with h2 | ⟨l, h2, hb, hg, ht⟩
  · rcases h5 with h5 | ⟨l, h5, hb, hg, ht⟩
    · exact ⟨w, h1, by rw [h4, h5, h2], by rw [h2]; exact hsz⟩
    · have := h3 l ht hb hg
      refine ⟨w, h1, by rw [h4, h5, this]; rfl, ?_⟩
      rw [this]
      have hb' := hb
      unfold logB frameB at hb'
      simp only [Bool.and_eq_true, iLe_true, lenI_eq] at hb'
      obtain ⟨a, v, B, E, ⟨⟩⟩ := l
      simp only at hb'
      exact sized_log (by omega) (by omega)
  · have h7 := h6 l ht hb hg
    refine ⟨w, h1, by rw [h4, h7, h2]; rfl, ?_⟩
    rw [h2]
    have hb' := hb
    unfold logB frameB at hb'
    simp only [Bool.and_eq_true, iLe_true, lenI_eq] at hb'
    obtain ⟨a, v, B, E, ⟨⟩⟩ := l
    simp only at hb'
    exact sized_log (by omega) (by omega)

theorem laws_FnExactReadLog_plain (x : List UInt8) (hx : Fit .str x) : ∃ o, laws_FnExactReadLog x = some ((true, ()), o) := by
  unfold laws_FnExactReadLog
  by_cases hl : 1048576 < lenI x
  · rw [iLt_pos hl]; exact ⟨_, rfl⟩
  rw [iLt_neg hl]
  rw [lenI_eq] at hl
  obtain ⟨w, h2, h1, hsz⟩ := readLog_same (s := x) (by omega)
  obtain ⟨⟨w1, wc, ⟨⟩⟩, ⟨⟩⟩ := w
  have h6 := laws_eqLog_ok w1 hsz
  obtain ⟨m', l2, l3, k1', k2', k3', k4'⟩ := laws_markLog_ex w1 hsz 1 (by omega) (by omega)
  obtain ⟨v1, v2, v3, v4, ⟨⟩⟩ := w1
  have n2 : iLt m' 0 = false := iLt_neg (by omega)
  simp only at k1' k4'
  simp only [h1, h2, h6, k1', k4', n2, iEq_self, Option.bind_some, Bool.not_true, cond_false]
  exact ⟨(), trivial⟩
end Go.Proofs.YtdmaamakckochaaGreatDoor
