/- Words: formulas as plain trees, their texts, and how they lie in memory. -/
import Derived.Below
import Derived.OneCell
import Derived.Carry
namespace Go.Proofs.YtjijlkiilmbdnaaGreatDoor
open Go Go.RowKit

/-- A fact kept from the walk. -/
theorem hid {p : Prop} (h : p) : Hid p := h

/-- A formula: a layer, not, or one of four that join two (3 and, 4 minus, 5 xor, 6 or). -/
inductive Fm where
  | layer (n : Nat)
  | not (f : Fm)
  | bin (op : Nat) (f g : Fm)

namespace Fm
def op : Fm → Nat | .layer _ => 1 | .not _ => 2 | .bin o _ _ => o
def lay : Fm → Nat | .layer n => n | _ => 0
def subs : Fm → List Fm | .layer _ => [] | .not f => [f] | .bin _ f g => [f, g]
def ok : Fm → Prop | .layer n => n < 16 | .not f => f.ok | .bin o f g => 3 ≤ o ∧ o ≤ 6 ∧ f.ok ∧ g.ok
def depth : Fm → Nat | .layer _ => 1 | .not f => f.depth + 1 | .bin _ f g => max f.depth g.depth + 1
def parts : Fm → Nat | .layer _ => 1 | .not f => f.parts + 1 | .bin _ f g => f.parts + g.parts + 1
theorem depth_pos (f : Fm) : 0 < f.depth := by cases f <;> simp [depth]
theorem parts_pos (f : Fm) : 0 < f.parts := by cases f <;> simp [parts]
theorem depth_le (f : Fm) : f.depth ≤ f.parts := by induction f <;> simp only [depth, parts] <;> omega
end Fm

/-- A world that is as another one was, but that it has grown. -/
abbrev Grew (w w' : World) : Prop := w.grownBy w' none

/-- A cell of an older world reads as it did. -/
theorem keepc {w w' : World} {p : Addr} {v : Value} (h : Below w.heap.size w w') (hc : w.cell? p = some v) : w'.cell? p = some v :=
  (h.cell (World.block_lt_of_cell? w _ hc)).trans hc
theorem keepf {w w' : World} {p : Addr} {v : Value} {b : Bool} (h : Below w.heap.size w w') (hc : w.cell? p = some v) (hf : w.frozen? p = b) : w'.frozen? p = b :=
  (h.frozen (World.block_lt_of_cell? w _ hc)).trans hf

theorem below_step {w v u : World} (h : Below w.heap.size w v) (k : Below v.heap.size v u) : Below w.heap.size w u := h.trans (k.mono h.size)

theorem grown_of_below {w w' : World} (h : Below w.heap.size w w') : w.grownBy w' none := ⟨h.os, h.tape, h.output, h.size, fun k hk _ => h.block k hk⟩

theorem own_below {w w' : World} {B e size n : Nat} {v : Value} {xs : List Value} (h : w.ownsRow B e size v n xs) (hb : Below w.heap.size w w') : w'.ownsRow B e size v n xs :=
  h.kept (grown_of_below hb) (by cases hv : v.ownBlock with | none => exact .inl rfl | some k => exact .inr (by simp))

theorem own_ge {w : World} {B e size n : Nat} {v : Value} {xs : List Value} (h : w.ownsRow B e size v n xs) : ∀ k, v.ownBlock = some k → B ≤ k := by
  intro k hk
  obtain ⟨_, ⟨rfl, _⟩ | ⟨g, cap, cur, rfl, hg, _⟩⟩ := h
  · simp [Value.ownBlock] at hk
  · simp [Value.ownBlock] at hk; omega

/-- A row of the call's own that holds one, two. -/
theorem row_one {w : World} {B e : Nat} {v x : Value} (h : w.ownsRow B e 1 v (0 + 1) ([] ++ [x])) :
    ∃ g cap, v = .slice (some ⟨g, 0, none⟩) 1 cap ∧ B ≤ g ∧ 1 ≤ cap ∧ w.cell? ⟨g, 0, none⟩ = some x := by
  obtain ⟨_, h | ⟨g, cap, cur, rfl, hg, hh, h1, h2, h3, h4⟩⟩ := h
  · simp at h
  · refine ⟨g, cap, rfl, hg, h1, ?_⟩
    simp only [World.cell?, hh]
    rw [← Array.getElem?_toList]
    cases hl : cur.toList with
    | nil => simp [hl] at h4
    | cons y l => simp [hl] at h4; simp [h4]

theorem row_two {w : World} {B e : Nat} {v x y : Value} {l : List Value} (hl : l = [x]) (h : w.ownsRow B e 1 v (0 + 1 + 1) (l ++ [y])) :
    ∃ g cap, v = .slice (some ⟨g, 0, none⟩) 2 cap ∧ B ≤ g ∧ 2 ≤ cap ∧ w.cell? ⟨g, 0, none⟩ = some x ∧ w.cell? ⟨g, 1, none⟩ = some y := by
  subst hl
  obtain ⟨_, h | ⟨g, cap, cur, rfl, hg, hh, h1, h2, h3, h4⟩⟩ := h
  · simp at h
  · refine ⟨g, cap, rfl, hg, h1, ?_⟩
    simp only [World.cell?, hh]
    rw [← Array.getElem?_toList, ← Array.getElem?_toList]
    match hl : cur.toList, h4 with
    | [], h4 => simp at h4
    | [_], h4 => simp at h4
    | a :: b :: l, h4 => simp at h4; simp [h4]

/-- What a cell holds. -/
def cellOf (w : World) (a : Addr) : Value := (w.cell? a).getD undef
theorem cellOf_some {w : World} {a : Addr} {v : Value} (h : w.cell? a = some v) : w.cell? a = some (cellOf w a) := by rw [cellOf, h]; rfl

/-- A cell that is kept, three that are written: what a region that draws its order must hold. -/
theorem cell_set {w : World} {a p : Addr} {v u : Value} (h : w.cell? a = some v) (hne : p ≠ a) : (w.setCell p u).cell? a = some v := by rw [World.cell?_setCell_other _ _ _ _ hne]; exact h
theorem cellOf_set {w : World} {a p : Addr} {v u : Value} (h : w.cell? a = some v) : (w.setCell p u).cell? a = some (cellOf (w.setCell p u) a) :=
  let ⟨_, hv⟩ := cell?_setCell_some (p := p) (x := u) h; cellOf_some hv

theorem keep_three {w : World} {k b : Nat} {n x y z : Value} (hne : k ≠ b)
    (h : w.cell? ⟨k, 0, none⟩ = some n ∧ w.cell? ⟨b, 0, none⟩ = some (cellOf w ⟨b, 0, none⟩) ∧ w.cell? ⟨b, 1, none⟩ = some (cellOf w ⟨b, 1, none⟩) ∧ w.cell? ⟨b, 2, none⟩ = some (cellOf w ⟨b, 2, none⟩) ∧
      w.frozen? ⟨b, 0, none⟩ = false ∧ w.frozen? ⟨b, 1, none⟩ = false ∧ w.frozen? ⟨b, 2, none⟩ = false) :
    let u := ((w.setCell ⟨b, 0, none⟩ x).setCell ⟨b, 1, none⟩ y).setCell ⟨b, 2, none⟩ z
    u.cell? ⟨k, 0, none⟩ = some n ∧ u.cell? ⟨b, 0, none⟩ = some (cellOf u ⟨b, 0, none⟩) ∧ u.cell? ⟨b, 1, none⟩ = some (cellOf u ⟨b, 1, none⟩) ∧ u.cell? ⟨b, 2, none⟩ = some (cellOf u ⟨b, 2, none⟩) ∧
      u.frozen? ⟨b, 0, none⟩ = false ∧ u.frozen? ⟨b, 1, none⟩ = false ∧ u.frozen? ⟨b, 2, none⟩ = false := by
  obtain ⟨h0, h1, h2, h3, f1, f2, f3⟩ := h
  have hn : ∀ i, (⟨b, i, none⟩ : Addr) ≠ ⟨k, 0, none⟩ := fun i e => hne (by injection e with e; exact e.symm)
  refine ⟨cell_set (cell_set (cell_set h0 (hn 0)) (hn 1)) (hn 2), cellOf_set (cellOf_set (cellOf_set h1)), cellOf_set (cellOf_set (cellOf_set h2)), cellOf_set (cellOf_set (cellOf_set h3)), ?_, ?_, ?_⟩
  · simpa using f1
  · simpa using f2
  · simpa using f3

/-- A formula in memory: all blocks that it lies in are of A. -/
def Rep (A : Nat → Prop) (w : World) : Fm → Value → Prop
  | .layer n, v => v = .agg #[.int .i64 1, .int .i64 n, .slice none 0 0]
  | .not f, v => ∃ b off cap x y z, v = .agg #[.int .i64 2, .int .i64 0, .slice (some ⟨b, off, none⟩) 1 cap] ∧ 1 ≤ cap ∧ 0 ≤ cap ∧ A b ∧
      w.cell? ⟨b, off, none⟩ = some x ∧ w.cell? ⟨b, off + 1, none⟩ = some y ∧ w.cell? ⟨b, off + 2, none⟩ = some z ∧ Rep A w f (.agg #[x, y, z])
  | .bin o f g, v => ∃ b off cap x y z x' y' z', v = .agg #[.int .i64 o, .int .i64 0, .slice (some ⟨b, off, none⟩) 2 cap] ∧ 2 ≤ cap ∧ 0 ≤ cap ∧ A b ∧
      w.cell? ⟨b, off, none⟩ = some x ∧ w.cell? ⟨b, off + 1, none⟩ = some y ∧ w.cell? ⟨b, off + 2, none⟩ = some z ∧
      w.cell? ⟨b, off + 3, none⟩ = some x' ∧ w.cell? ⟨b, off + 3 + 1, none⟩ = some y' ∧ w.cell? ⟨b, off + 3 + 2, none⟩ = some z' ∧
      Rep A w f (.agg #[x, y, z]) ∧ Rep A w g (.agg #[x', y', z'])

theorem Rep.agg {A : Nat → Prop} {w : World} {f : Fm} {v : Value} (h : Rep A w f v) : ∃ a n c, v = .agg #[.int .i64 f.op, .int .i64 f.lay, .slice a n c] := by
  cases f with
  | layer n => exact ⟨_, _, _, h⟩
  | not f => obtain ⟨b, off, cap, x, y, z, h, _⟩ := h; exact ⟨_, _, _, h⟩
  | bin o f g => obtain ⟨b, off, cap, x, y, z, x', y', z', h, _⟩ := h; exact ⟨_, _, _, h⟩

theorem Rep.cells {A : Nat → Prop} {w : World} {f : Fm} {x y z : Value} (h : Rep A w f (.agg #[x, y, z])) :
    ∃ a n c, x = .int .i64 f.op ∧ y = .int .i64 f.lay ∧ z = .slice a n c := by
  obtain ⟨a, n, c, h⟩ := h.agg
  simp at h
  exact ⟨a, n, c, h⟩

theorem Rep.keep {A B : Nat → Prop} {w w' : World} (hb : ∀ k, A k → k < w.heap.size → w'.heap[k]? = w.heap[k]?) (hab : ∀ k, A k → k < w.heap.size → B k) {f : Fm} :
    ∀ {v : Value}, Rep A w f v → Rep B w' f v := by
  induction f with
  | layer n => exact fun h => h
  | not f ih =>
    rintro v ⟨b, off, cap, x, y, z, hv, h1, h2, hA, hx, hy, hz, hf⟩
    have hlt := World.block_lt_of_cell? w _ hx
    have hc : ∀ a : Addr, a.block = b → w'.cell? a = w.cell? a := fun a ha => World.cell?_of_block (by rw [ha]; exact hb b hA hlt)
    exact ⟨b, off, cap, x, y, z, hv, h1, h2, hab b hA hlt, by rw [hc _ rfl]; exact hx, by rw [hc _ rfl]; exact hy, by rw [hc _ rfl]; exact hz, ih hf⟩
  | bin o f g ih1 ih2 =>
    rintro v ⟨b, off, cap, x, y, z, x', y', z', hv, h1, h2, hA, hx, hy, hz, hx', hy', hz', hf, hg⟩
    have hlt := World.block_lt_of_cell? w _ hx
    have hc : ∀ a : Addr, a.block = b → w'.cell? a = w.cell? a := fun a ha => World.cell?_of_block (by rw [ha]; exact hb b hA hlt)
    exact ⟨b, off, cap, x, y, z, x', y', z', hv, h1, h2, hab b hA hlt, by rw [hc _ rfl]; exact hx, by rw [hc _ rfl]; exact hy, by rw [hc _ rfl]; exact hz,
      by rw [hc _ rfl]; exact hx', by rw [hc _ rfl]; exact hy', by rw [hc _ rfl]; exact hz', ih1 hf, ih2 hg⟩

/-- Behind a world that has only grown. -/
theorem Rep.grew {A : Nat → Prop} {B : Nat} {w w' : World} (h : Below B w w') (hB : w.heap.size ≤ B) {f : Fm} {v : Value} (hr : Rep A w f v) : Rep A w' f v :=
  hr.keep (fun k _ hk => h.block k (by omega)) (fun _ h _ => h)

end Go.Proofs.YtjijlkiilmbdnaaGreatDoor
