/- TopFormed: the walk. -/
import Derived.Test.YtjijlkiilmbdnaaGreatDoorSp
import Derived.Deep.RegionWith
namespace Go.Proofs.YtjijlkiilmbdnaaGreatDoor
open Go Go.RowKit

/-- The bytes that came in. -/
def SlI (w : World) (v : Value) (bs : List UInt8) : Prop := (∃ a c, v = .slice a 0 c ∧ bs = []) ∨
  ∃ k o c, v = .slice (some ⟨k, o, none⟩) bs.length c ∧ bs.length ≤ c ∧ c ≤ 140737488351232 ∧ bs ≠ [] ∧ ∀ i x, bs[i]? = some x → w.cell? ⟨k, o + i, none⟩ = some (.int .u8 x.toNat)

theorem lit_bytes (w : World) : SlB (w.alloc (.cells #[.int .u8 4, .int .u8 2, .int .u8 0, .int .u8 9, .int .u8 1, .int .u8 18] 5)) (w.alloc (.cells #[.int .u8 4, .int .u8 2, .int .u8 0, .int .u8 9, .int .u8 1, .int .u8 18] 5)).heap.size (w.alloc (.cells #[.int .u8 4, .int .u8 2, .int .u8 0, .int .u8 9, .int .u8 1, .int .u8 18] 5)).heap.size (.slice (some ⟨w.heap.size, 0, none⟩) 6 6) [4, 2, 0, 9, 1, 18] := by
  refine ⟨w.heap.size, 0, 6, rfl, by decide, by omega, by simp, by simp, fun i x hx => ?_⟩
  rw [Nat.zero_add]
  match i, hx with
  | 0, hx => cases hx; exact cell_new _ _ _ _ _ _ rfl rfl
  | 1, hx => cases hx; exact cell_new _ _ _ _ _ _ rfl rfl
  | 2, hx => cases hx; exact cell_new _ _ _ _ _ _ rfl rfl
  | 3, hx => cases hx; exact cell_new _ _ _ _ _ _ rfl rfl
  | 4, hx => cases hx; exact cell_new _ _ _ _ _ _ rfl rfl
  | 5, hx => cases hx; exact cell_new _ _ _ _ _ _ rfl rfl
  | n + 6, hx => simp at hx

/-- The first formula is spoken. -/
theorem spoken_lit (W : World) (m : Int) (hm : W.cell? ⟨0, 0, none⟩ = some (.int .i64 m)) :
    Calls Tryz.prog 4 #[.slice (some ⟨W.heap.size, 0, none⟩) 6 6, .slice none 0 0] (W.alloc (.cells #[.int .u8 4, .int .u8 2, .int .u8 0, .int .u8 9, .int .u8 1, .int .u8 18] 5)).drew fun e w' => e = .returned (.bool true) ∧ Below W.heap.size W w' := by
  have h0 := (lit_bytes W).keep (w' := (W.alloc (.cells #[.int .u8 4, .int .u8 2, .int .u8 0, .int .u8 9, .int .u8 1, .int .u8 18] 5)).drew) (fun k _ _ => rfl)
  have h1 := cell_past W (.cells #[.int .u8 4, .int .u8 2, .int .u8 0, .int .u8 9, .int .u8 1, .int .u8 18] 5) _ _ _ hm
  refine (spoken_any [4, 2, 0, 9, 1, 18] (by decide) [] (by decide) _ _ _ h0 (.inl ⟨rfl, rfl⟩) m h1).mono ?_
  rintro e w' ⟨rfl, hb⟩
  exact ⟨rfl, (((Below.refl _ _).alloc (Nat.le_refl _) _).drew).trans (hb.mono (by simp))⟩

/-- The second, of what came in, cut. -/
theorem spoken_cut (bs : List UInt8) (ms : List Int) (w W : World) (h mv : Value) (hs : SlI w h bs) (hmv : SlM w mv ms) (m : Int) (hm : w.cell? ⟨0, 0, none⟩ = some (.int .i64 m)) (hB : Below w.heap.size w W) (h' mv' : Value)
    (hh : ∀ a n c, h = .slice a n c → h' = .slice a (min n 80) c) (hmm : ∀ a n c, mv = .slice a n c → mv' = .slice a (min n 20) c) :
    Calls Tryz.prog 4 #[h', mv'] W fun e w' => e = .returned (.bool true) ∧ Below w.heap.size w w' := by
  have h1 : SlB W W.heap.size W.heap.size h' (bs.take 80) := by
    rcases hs with ⟨a, c, rfl, rfl⟩ | ⟨k, o, c, rfl, hc1, hc2, hne, hcell⟩
    · exact ⟨a, c, by rw [hh _ _ _ rfl]; rfl⟩
    · have e := hh _ _ _ rfl
      have hlt : k < w.heap.size := by
        cases bs with
        | nil => exact absurd rfl hne
        | cons b bs => exact World.block_lt_of_cell? w _ (hcell 0 b rfl)
      have hsz := hB.size
      have e2 : (bs.take 80).length = min bs.length 80 := by rw [List.length_take, Nat.min_comm]
      rw [← e2] at e
      have hcell' : ∀ i x, (bs.take 80)[i]? = some x → W.cell? ⟨k, o + i, none⟩ = some (.int .u8 x.toNat) := by
        intro i x hx
        rw [List.getElem?_take] at hx
        split at hx
        · exact keepc hB (hcell i x hx)
        · cases hx
      have hle : (bs.take 80).length ≤ c := by omega
      generalize bs.take 80 = t at *
      cases t with
      | nil => exact ⟨_, _, e⟩
      | cons b t => exact ⟨k, o, c, e, hle, hc2, by omega, by omega, hcell'⟩
  have h2 : SlM W mv' (ms.take 20) := by
    rcases hmv with ⟨rfl, rfl⟩ | ⟨a, c, rfl, hcell⟩
    · exact .inl ⟨hmm _ _ _ rfl, rfl⟩
    · refine .inr ⟨a, c, by rw [hmm _ _ _ rfl, List.length_take, Nat.min_comm], fun i x hx => ?_⟩
      rw [List.getElem?_take] at hx
      split at hx
      · obtain ⟨h1, h2⟩ := hcell i x hx
        exact ⟨keepc hB h1, h2⟩
      · cases hx
  refine (spoken_any (bs.take 80) (List.length_take_le _ _) (ms.take 20) (List.length_take_le _ _) W h' mv' h1 h2 m (keepc hB hm)).mono ?_
  rintro e w' ⟨rfl, hb⟩
  exact ⟨rfl, hB.trans (hb.mono hB.size)⟩

set_option maxRecDepth 100000 in
set_option maxHeartbeats 1000000 in
theorem topFormed_any (bs : List UInt8) (ms : List Int) (w : World) (a1 a2 : Option Addr) (n1 c1 n2 c2 : Nat) (hs : SlI w (.slice a1 n1 c1) bs) (hmv : SlM w (.slice a2 n2 c2) ms) (m : Int) (hm : w.cell? ⟨0, 0, none⟩ = some (.int .i64 m))
    (hc1 : n1 ≤ c1) (hc2 : n2 ≤ c2) (_ : c1 ≤ 140737488351232) (_ : c2 ≤ 140737488351232) :
    Calls Tryz.prog 3 #[.slice a1 n1 c1, .slice a2 n2 c2] w fun e w' => e = .returned (.bool true) ∧ Below w.heap.size w w' := by
  obtain ⟨x1, e1, g1, y1⟩ : ∃ x1 : Nat, min (n1 : Int) 80 = (x1 : Int) ∧ (x1 : Int) ≤ (c1 : Int) ∧ x1 = min n1 80 := ⟨min n1 80, by omega, by omega, rfl⟩
  obtain ⟨x2, e2, g2, y2⟩ : ∃ x2 : Nat, min (n2 : Int) 20 = (x2 : Int) ∧ (x2 : Int) ≤ (c2 : Int) ∧ x2 = min n2 20 := ⟨min n2 20, by omega, by omega, rfl⟩
  have K2 := fun W hB => spoken_cut bs ms w W _ _ hs hmv m hm hB (.slice a1 x1 c1) (.slice a2 x2 c2) (fun a n c e => by cases e; rw [y1]) (fun a n c e => by cases e; rw [y2])
  have K2H := hid K2
  have hz1 : (0 : Int) ≤ (x1 : Int) := by omega
  have hz2 : (0 : Int) ≤ (x2 : Int) := by omega
  clear hs hmv K2 y1 y2
  go_enter Tryz.func3, Tryz.ntmps3
  go_wp2_with fail
  go_region_held3 (fun w' => Below w.heap.size w w')
    (first
      | exact (Below.refl _ _).drew
      | exact ((Below.refl _ _).alloc (Nat.le_refl _) _).drew
      | assumption)
    (first
      | ((with_reducible refine (spoken_lit _ m ?_).mono ?_); (first | exact hm | (simpa using hm)); rintro e w1 ⟨rfl, hb1⟩)
      | ((with_reducible refine (K2H.out _ ?_).mono ?_); exact hb1; rintro e w2 ⟨rfl, hb2⟩))
  all_goals go_wp2_with fail
  all_goals go_ret
  all_goals exact ⟨rfl, hb2⟩

end Go.Proofs.YtjijlkiilmbdnaaGreatDoor
