/- formed: all of it. -/
import Derived.Test.YtjijlkiilmbdnaaGreatDoorF1
import Derived.Test.YtjijlkiilmbdnaaGreatDoorF2
import Derived.Test.YtjijlkiilmbdnaaGreatDoorF3
namespace Go.Proofs.YtjijlkiilmbdnaaGreatDoor
open Go Go.RowKit

theorem hd_lt (bs : List UInt8) : hd bs < 256 := by
  cases bs with
  | nil => exact Nat.zero_lt_succ _
  | cons b bs => exact b.toNat_lt

theorem formed_any (d : Nat) (hd5 : d ≤ 5) : FormedSaid d := by
  induction d with
  | zero =>
    intro w p B h bs hlen hB hs hp
    exact formed_leaf w p B hB h bs hlen hs hp (hd bs) rfl (hd_lt bs) 0 (.inl rfl)
  | succ d ih =>
    intro w p B h bs hlen hB hs hp
    have ih := ih (by omega)
    have hcast : ((d + 1 : Nat) : Int) = (d : Int) + 1 := by omega
    unfold mk
    by_cases h1 : hd bs % 9 > 5 ∨ hd bs % 9 = 0
    · rw [if_pos h1]
      exact formed_leaf w p B hB h bs hlen hs hp (hd bs) rfl (hd_lt bs) (d + 1) (.inr h1)
    · rw [if_neg h1, hcast]
      by_cases h2 : hd bs % 9 = 1
      · rw [if_pos h2]
        exact formed_not w p B hB h bs hlen hs hp (hd bs) rfl (hd_lt bs) d (by omega) ih h2
      · rw [if_neg h2]
        have h3 : hd bs % 9 = 2 ∨ hd bs % 9 = 3 ∨ hd bs % 9 = 4 ∨ hd bs % 9 = 5 := by omega
        rcases h3 with h3 | h3 | h3 | h3
        · rw [h3]; exact formed_and w p B hB h bs hlen hs hp (hd bs) rfl (hd_lt bs) d (by omega) ih h3
        · rw [h3]; exact formed_minus w p B hB h bs hlen hs hp (hd bs) rfl (hd_lt bs) d (by omega) ih h3
        · rw [h3]; exact formed_xor w p B hB h bs hlen hs hp (hd bs) rfl (hd_lt bs) d (by omega) ih h3
        · rw [h3]; exact formed_or w p B hB h bs hlen hs hp (hd bs) rfl (hd_lt bs) d (by omega) ih h3

end Go.Proofs.YtjijlkiilmbdnaaGreatDoor
