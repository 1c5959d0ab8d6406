/- Reading a formula's text. -/
import Derived.Test.YtjijlkiilmbdnaaGreatDoorPt
namespace Go.Proofs.YtjijlkiilmbdnaaGreatDoor
open Go Go.RowKit

theorem noDig_cons (c : UInt8) (t : List UInt8) (h : ¬ (48 ≤ c ∧ c ≤ 57)) : NoDig (c :: t) := fun d hd => by cases hd; exact h

theorem read_atom (f : Fm) (hok : f.ok) : ∀ (R o : Nat) (t : List UInt8), o + f.depth ≤ 33 → NoDig t → AtSaid R o (f.text ++ t) f t := by
  induction f with
  | layer n => exact fun R o t _ ht => atom_layer n hok ht
  | not f ih =>
    intro R o t hd ht
    have hp := f.depth_pos
    simp only [Fm.depth] at hd
    exact atom_not (by omega) (ih hok R (o + 1) t (by omega) ht)
  | bin op f g ih1 ih2 =>
    intro R o t hd ht
    obtain ⟨h3, h6, hf, hg⟩ := hok
    have hp := f.depth_pos
    simp only [Fm.depth] at hd
    have e : (Fm.bin op f g).text ++ t = 40 :: (f.text ++ (signOf op :: (g.text ++ (41 :: t)))) := by simp [Fm.text]
    rw [e]
    refine atom_round (by omega) ?_
    have a2 := level_zero (ih2 hg R (o + 1) (41 :: t) (by omega) (noDig_cons 41 t (by decide)))
    have hop : op = 3 ∨ op = 4 ∨ op = 5 ∨ op = 6 := by omega
    rcases hop with rfl | rfl | rfl | rfl
    · have a1 := level_zero (ih1 hf R (o + 1) (signOf 3 :: (g.text ++ (41 :: t))) (by omega) (noDig_cons _ _ (by decide)))
      exact level_pass3 (level_pass2 (level_bin1 a1 a2 rfl rfl) rfl) rfl
    · have a1 := level_zero (ih1 hf R (o + 1) (signOf 4 :: (g.text ++ (41 :: t))) (by omega) (noDig_cons _ _ (by decide)))
      exact level_pass3 (level_pass2 (level_bin1 a1 a2 rfl rfl) rfl) rfl
    · have a1 := level_zero (ih1 hf R (o + 1) (signOf 5 :: (g.text ++ (41 :: t))) (by omega) (noDig_cons _ _ (by decide)))
      exact level_pass3 (level_bin2 (level_pass1 a1 rfl) (level_pass1 a2 rfl) rfl rfl) rfl
    · have a1 := level_zero (ih1 hf R (o + 1) (signOf 6 :: (g.text ++ (41 :: t))) (by omega) (noDig_cons _ _ (by decide)))
      exact level_bin3 (level_pass2 (level_pass1 a1 rfl) rfl) (level_pass2 (level_pass1 a2 rfl) rfl) rfl rfl

theorem read_all (f : Fm) (hok : f.ok) (hd : f.depth ≤ 32) (R : Nat) : LvSaid 3 R 0 f.text f [] := by
  have h := level_zero (read_atom f hok R 0 [] (by omega) (fun c h => by cases h))
  rw [List.append_nil] at h
  exact level_pass3 (level_pass2 (level_pass1 h rfl) rfl) rfl

end Go.Proofs.YtjijlkiilmbdnaaGreatDoor
