import Derived.Test.YtiakgpcjomgkcaaF1
namespace Go.Proofs.Ytiakgpcjomgkcaa
open Go Go.Tm
theorem within_eq : impl_within = spec_l00In := rfl
theorem l00In_some (a b c : Int) : spec_l00In a b c = some ((iLe b a && iLe a c, ()), ()) := by
  unfold spec_l00In
  cases iLe b a <;> rfl
theorem deed_eq (d : Int × (Int × (Int × Unit))) : impl_ValidDeed d = spec_ValidDeed d := by
  simp only [impl_ValidDeed, spec_ValidDeed, spec_l09Deed, within_eq, l00In_some, Option.bind_some]
  generalize (iLe 1 d.1 && iLe d.1 7) = p
  generalize (iLe 0 d.2.1 && iLe d.2.1 999) = q
  generalize (iLe 0 d.2.2.1 && iLe d.2.2.1 999) = r
  generalize iEq d.1 2 = s
  cases p <;> cases q <;> cases r <;> cases s <;> rfl
theorem deed_some (d : Int × (Int × (Int × Unit))) : ∃ b, spec_ValidDeed d = some ((b, ()), ()) := by
  simp only [spec_ValidDeed, spec_l09Deed, l00In_some, Option.bind_some]
  generalize (iLe 1 d.1 && iLe d.1 7) = p
  generalize (iLe 0 d.2.1 && iLe d.2.1 999) = q
  generalize (iLe 0 d.2.2.1 && iLe d.2.2.1 999) = r
  generalize iEq d.1 2 = s
  cases p <;> cases q <;> cases r <;> cases s <;> exact ⟨_, rfl⟩
theorem laws_FnExactValidDeed_plain (d : Int × (Int × (Int × Unit))) (_ : Fit (.pair (.int .i64) (.pair (.int .i64) (.pair (.int .i64) .unit))) d) : ∃ o, laws_FnExactValidDeed d = some ((true, ()), o) := by
  obtain ⟨b, hb⟩ := deed_some d
  have e : laws_toDeed d = some ((d, ()), ()) := rfl
  simp only [laws_FnExactValidDeed, e, Option.bind_some, hb, deed_eq]
  cases b <;> exact ⟨(), rfl⟩
end Go.Proofs.Ytiakgpcjomgkcaa
