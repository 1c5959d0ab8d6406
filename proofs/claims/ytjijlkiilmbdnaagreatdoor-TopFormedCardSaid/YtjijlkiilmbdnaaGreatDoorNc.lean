/- once: a row of integers sorted, each once. -/
import Derived.Test.YtjijlkiilmbdnaaGreatDoorRg
import Derived.Test.YtjijlkiilmbdnaaGreatDoorFw
import Derived.Test.YtjijlkiilmbdnaaGreatDoorShelf
import Derived.Sort.OwnSortedInts
namespace Go.Proofs.YtjijlkiilmbdnaaGreatDoor
open Go Go.RowKit Go.Sort

/-- The list sorted, each once. -/
def onceOf (zs : List Int) : List Int := Lib.compact (zs.mergeSort fun x y => decide (x ≤ y))

theorem row_len {zs : List Int} : (zs.mergeSort fun x y => decide (x ≤ y)).length = zs.length := by simp

theorem putRow_grown {w : World} {g q : Nat} (d : Array Int) : w.grownBy (putRow (Value.int .i64) (Sort.ahead w q) g 0 d) (some g) := by
  refine ⟨rfl, rfl, rfl, by simp, fun k hk hne => ?_⟩
  have : g ≠ k := fun e => hne (by rw [e])
  simp [putRow, mapBlock, Sort.ahead, Array.getElem?_modify, this]

theorem putRow_block {w : World} {g q : Nat} {cur : Array Value} {e : TypeId} {fr : Nat × Nat} (d : Array Int) (hb : w.heap[g]? = some (.cells cur e fr)) :
    (putRow (Value.int .i64) (Sort.ahead w q) g 0 d).heap[g]? = some (.cells (putCells (Value.int .i64) 0 d cur) e fr) := by
  simp [putRow, mapBlock, Sort.ahead, Array.getElem?_modify, hb, onCells]

theorem compact_le (zs : List Int) : (Lib.compact zs).length ≤ zs.length := by
  simp only [Lib.compact, Lib.compactUpTo, List.length_map]
  exact Nat.le_trans (List.length_filter_le _ _) (by simp)

set_option maxRecDepth 100000 in
theorem once_any (zs : List Int) (g cap : Nat) (cur : Array Value) (w : World) (hz : zs.length ≤ 4096) (hcap : zs.length ≤ cap) (hc2 : cap ≤ maxLen) (hsz : cur.size = cap)
    (hb : w.heap[g]? = some (.cells cur 3 (0, 0))) (ht : cur.toList.take zs.length = zs.map (Value.int .i64)) :
    Calls Tryz.prog 33 #[.slice (some ⟨g, 0, none⟩) zs.length cap] w fun e w' => e = .returned (.slice (some ⟨g, 0, none⟩) (onceOf zs).length cap) ∧ w.grownBy w' (some g) ∧
      w'.ownsRow g 3 1 (.slice (some ⟨g, 0, none⟩) (onceOf zs).length cap) (onceOf zs).length ((onceOf zs).map (Value.int .i64)) := by
  have hh := holds_of_blockI hb ht
  have hlt := (Array.getElem?_eq_some_iff.1 hb).1
  obtain ⟨ys, hys⟩ : ∃ ys, ys = zs.mergeSort fun x y => decide (x ≤ y) := ⟨_, rfl⟩
  have hyl : ys.length = zs.length := by rw [hys]; simp
  have e1 : onceOf zs = Lib.compact ys := by rw [onceOf, hys]
  rw [e1]
  have hl := compact_le ys
  have hzH := hid hb
  have hhH := hid hh
  clear hb ht hh e1
  go_enter Tryz.func33, Tryz.ntmps33
  go_wp2_with fail
  refine (Tryz.slices_Sort_int g 0 cap zs w hhH.out hlt (by omega)).mono ?_
  rintro e w1 ⟨rfl, n, os, rfl⟩
  rw [← hys]
  clear hys
  have hG := grownBy_sortedI (w := w) (g := g) (n := n) (os := os) ys.toArray
  have hB := heap_sortedI (n := n) (os := os) ys.toArray hzH.out
  have hT := take_putCellsI cur ys (by omega)
  have hS : (putCells (Value.int .i64) 0 ys.toArray cur).size = cap := by simp [putCells, hsz]
  generalize grow (putRow (Value.int .i64) (Sort.ahead w n) g 0 ys.toArray) os = w1 at *
  generalize putCells (Value.int .i64) 0 ys.toArray cur = cur1 at *
  go_wp2_with fail
  have hh1 := holds_of_blockI hB hT
  have K := Tryz.slices_Compact_int g 0 cap ys w1 hh1 (by omega) (by omega)
  rw [hyl] at K
  refine K.mono ?_
  rintro e w2 ⟨rfl, q, rfl⟩
  go_wp2_with fail
  go_ret
  have e2 : (Lib.compact ys ++ List.replicate (zs.length - (Lib.compact ys).length) 0).length = zs.length := by simp; omega
  refine ⟨rfl, grown_same hG (putRow_grown _), by simp, .inr ⟨g, cap, _, rfl, Nat.le_refl _, putRow_block _ hB, by omega, hc2, by simp [putCells, hS], ?_⟩⟩
  have h3 := take_putCellsI cur1 (Lib.compact ys ++ List.replicate (zs.length - (Lib.compact ys).length) 0) (by omega)
  have h4 := congrArg (List.take (Lib.compact ys).length) h3
  rw [List.take_take, Nat.min_eq_left (by omega), ← List.map_take, List.take_left] at h4
  simpa using h4

end Go.Proofs.YtjijlkiilmbdnaaGreatDoor
