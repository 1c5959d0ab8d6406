/- A first part: contracts of small functions of package formula. -/
import Derived.Test.YtjijlkiilmbdnaaGreatDoorProg
import Derived.WalkKit
import Derived.WalkSpells
import Derived.WalkLawsBesides
import Derived.Deep.QuietTactic
import Derived.BigQuiet
import Derived.KernelRfl
import Derived.WalkSmall
namespace Go.Proofs.YtjijlkiilmbdnaaGreatDoor
open Go Go.RowKit

/-- How many formulas an Op has. -/
def needsOf (o : Int) : Int := if o = 1 then 0 else if o = 2 then 1 else if 3 ≤ o ∧ o ≤ 6 then 2 else -1

theorem needs_any (o : Int) (w : World) : Calls Tryz.prog 62 #[.int .i64 o] w fun e w' => e = .returned (.int .i64 (needsOf o)) ∧ w = w' := by
  by_cases h1 : o = 1
  · subst h1
    go_enter Tryz.func62, Tryz.ntmps62
    go_wp2
    go_ret
    exact ⟨rfl, rfl⟩
  · by_cases h2 : o = 2
    · subst h2
      go_enter Tryz.func62, Tryz.ntmps62
      go_wp2
      go_ret
      exact ⟨rfl, rfl⟩
    · by_cases h3 : 3 ≤ o
      · by_cases h4 : o ≤ 6
        · go_enter Tryz.func62, Tryz.ntmps62
          go_wp2
          go_ret
          exact ⟨by simp [needsOf, *], rfl⟩
        · go_enter Tryz.func62, Tryz.ntmps62
          go_wp2
          go_ret
          exact ⟨by simp [needsOf, *], rfl⟩
      · go_enter Tryz.func62, Tryz.ntmps62
        go_wp2
        go_ret
        exact ⟨by simp [needsOf, *]; omega, rfl⟩

theorem must_true (k : Int) (w : World) : Calls Tryz.prog 30 #[.bool true, .int .i64 k] w fun e w' => e = .returned (.tuple #[]) ∧ w = w' := by
  go_enter Tryz.func30, Tryz.ntmps30
  go_wp2
  go_end0
  exact ⟨rfl, rfl⟩

end Go.Proofs.YtjijlkiilmbdnaaGreatDoor
