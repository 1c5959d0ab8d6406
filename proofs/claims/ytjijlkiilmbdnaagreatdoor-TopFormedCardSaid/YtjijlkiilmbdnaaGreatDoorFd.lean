/- formed: what stands behind the walks: not, and what joins two. -/
import Derived.Test.YtjijlkiilmbdnaaGreatDoorFw
namespace Go.Proofs.YtjijlkiilmbdnaaGreatDoor
open Go Go.RowKit

theorem mk_len (d : Nat) : ∀ bs, (mk d bs).2.length ≤ bs.length := by
  induction d with
  | zero => intro bs; simp [mk]
  | succ d ih =>
    intro bs
    unfold mk
    split
    · simp
    · split
      · have := ih bs.tail; simp at this; show (mk d bs.tail).2.length ≤ _; omega
      · have := ih bs.tail; have := ih (mk d bs.tail).2; simp at *; show (mk d (mk d bs.tail).2).2.length ≤ _; omega

theorem grown_alloc {v u : World} {q : Option Nat} (h : v.grownBy u q) (o : Obj) : v.grownBy (u.alloc o) q :=
  ⟨h.os, h.tape, h.output, by have := h.size; simp; omega, fun i hi hne => (Below.heap_alloc _ _ _ (by have := h.size; omega)).trans (h.block i hi hne)⟩

theorem cell_new (V : World) (c : Array Value) (t i : Nat) (x : Value) (n : Nat) (hn : n = V.heap.size) (h : c[i]? = some x) : (V.alloc (.cells c t)).cell? ⟨n, i, none⟩ = some x := by
  subst hn
  have h1 := heap_alloc_new V (.cells c t)
  simp only [World.cell?, h1]
  simpa using h

theorem cell_past (V : World) (o : Obj) (n i : Nat) (x : Value) (h : V.cell? ⟨n, i, none⟩ = some x) : (V.alloc o).cell? ⟨n, i, none⟩ = some x :=
  (World.cell?_alloc_past _ _ _ (World.block_lt_of_cell? V _ h)).trans h

theorem str_not (f : Fm) : Value.string (⟨#[33]⟩ ++ ⟨f.text.toArray⟩) = .string ⟨(Fm.not f).text.toArray⟩ :=
  congrArg Value.string (ByteArray.mk_append_mk [33] f.text)

theorem not_done {w wc w1 : World} {p B : Nat} {h1 x y z x' y' z' cv : Value} {f : Fm} {rest : List UInt8} (hBw : B ≤ w.heap.size) (hplt : p < w.heap.size) (hg : w.grownBy wc (some p)) (hz : wc.heap.size = w.heap.size + 1)
    (hr : Rep (fun k => wc.heap.size ≤ k) w1 f (.agg #[x', y', z'])) (hc : ClRep (fun k => wc.heap.size ≤ k) w1 f cv) (hsl : SlB w1 p B h1 rest) (hp : w1.heap[p]? = some (.cells #[h1] 22 (0, 0))) (hg1 : wc.grownBy w1 (some p)) (t1 t2 t3 : Nat) :
    FormedPost w p B (.not f, rest) (.returned (.tuple #[.agg #[.int .i64 2, .int .i64 0, .slice (some ⟨w1.heap.size + 1 + 1, 0, none⟩) 1 1], .string ⟨(Fm.not f).text.toArray⟩, .func (.func 21) #[] #[.pointer (some ⟨w1.heap.size + 1, 0, none⟩)]]))
      ((((((w1.setCell ⟨w.heap.size, 0, none⟩ x).setCell ⟨w.heap.size, 1, none⟩ y).setCell ⟨w.heap.size, 2, none⟩ z).alloc (.cells #[x', y', z'] t1)).alloc (.cells #[cv] t2)).alloc (.cells #[x', y', z'] t3)) := by
  have g0 := set_three_grown w1 w.heap.size x y z
  generalize hV : ((w1.setCell ⟨w.heap.size, 0, none⟩ x).setCell ⟨w.heap.size, 1, none⟩ y).setCell ⟨w.heap.size, 2, none⟩ z = V at *
  have hVs : V.heap.size = w1.heap.size := by rw [← hV]; simp
  have g3 := grown_alloc (grown_alloc (grown_alloc g0 (.cells #[x', y', z'] t1)) (.cells #[cv] t2)) (.cells #[x', y', z'] t3)
  have hs1 := hg1.size
  have hk : ∀ k, wc.heap.size ≤ k → k < w1.heap.size → (((V.alloc (.cells #[x', y', z'] t1)).alloc (.cells #[cv] t2)).alloc (.cells #[x', y', z'] t3)).heap[k]? = w1.heap[k]? := fun k h1 h2 => g3.block k h2 (by simp; omega)
  have hnew : ∀ i u, #[x', y', z'][i]? = some u → (((V.alloc (.cells #[x', y', z'] t1)).alloc (.cells #[cv] t2)).alloc (.cells #[x', y', z'] t3)).cell? ⟨w1.heap.size + 1 + 1, i, none⟩ = some u := fun i u h => cell_new _ _ _ _ _ _ (by simp [hVs]) h
  refine ⟨_, _, h1, rfl, ⟨w1.heap.size + 1 + 1, 0, 1, x', y', z', rfl, by omega, by omega, by omega, hnew 0 x' rfl, hnew 1 y' rfl, hnew 2 z' rfl, hr.keep hk (fun k h _ => by omega)⟩,
    ⟨w1.heap.size + 1, cv, rfl, by omega, cell_past _ _ _ _ _ (cell_new _ _ _ _ _ _ (by simp [hVs]) rfl), hc.keep hk (fun k h _ => by omega)⟩, hsl.keep fun k h3 h4 => ?_, ?_, ?_⟩
  · exact g3.block k (by omega) (by simp; omega)
  · exact (g3.block p (by omega) (by simp; omega)).trans hp
  · exact grown_trans (grown_trans hg hg1 (.inr rfl)) g3 (.inl (Nat.le_refl _))

theorem bin_done {w wc w1 w2 : World} {p B o : Nat} {h2 x y z x1 y1 z1 x2 y2 z2 cv1 cv2 : Value} {f g : Fm} {rest : List UInt8} {t1 t2 : Nat} (hBw : B ≤ w.heap.size) (hplt : p < w.heap.size) (hg : w.grownBy wc (some p)) (hz : wc.heap.size = w.heap.size + 1)
    (hr1 : Rep (fun k => wc.heap.size ≤ k) w1 f (.agg #[x1, y1, z1])) (hc1 : ClRep (fun k => wc.heap.size ≤ k) w1 f cv1) (hg1 : wc.grownBy w1 (some p))
    (hg2 : ((w1.alloc (.cells #[x1, y1, z1] t1)).alloc (.cells #[cv1] t2)).grownBy w2 (some p))
    (hr2 : Rep (fun k => ((w1.alloc (.cells #[x1, y1, z1] t1)).alloc (.cells #[cv1] t2)).heap.size ≤ k) w2 g (.agg #[x2, y2, z2])) (hc2 : ClRep (fun k => ((w1.alloc (.cells #[x1, y1, z1] t1)).alloc (.cells #[cv1] t2)).heap.size ≤ k) w2 g cv2)
    (hsl : SlB w2 p B h2 rest) (hp : w2.heap[p]? = some (.cells #[h2] 22 (0, 0))) (hj : w2.cell? ⟨w1.heap.size + 1, 0, none⟩ = some cv1) (t3 t4 t5 : Nat) {s : ByteArray} (hs : s = ⟨(Fm.bin o f g).text.toArray⟩) :
    FormedPost w p B (.bin o f g, rest) (.returned (.tuple #[.agg #[.int .i64 o, .int .i64 0, .slice (some ⟨w2.heap.size + 1 + 1, 0, none⟩) 2 2], .string s, .func (.func (cloOf o)) #[] #[.pointer (some ⟨w1.heap.size + 1, 0, none⟩), .pointer (some ⟨w2.heap.size + 1, 0, none⟩)]]))
      ((((((w2.setCell ⟨w.heap.size, 0, none⟩ x).setCell ⟨w.heap.size, 1, none⟩ y).setCell ⟨w.heap.size, 2, none⟩ z).alloc (.cells #[x2, y2, z2] t3)).alloc (.cells #[cv2] t4)).alloc (.cells #[x1, y1, z1, x2, y2, z2] t5)) := by
  subst hs
  have g0 := set_three_grown w2 w.heap.size x y z
  generalize hV : ((w2.setCell ⟨w.heap.size, 0, none⟩ x).setCell ⟨w.heap.size, 1, none⟩ y).setCell ⟨w.heap.size, 2, none⟩ z = V at *
  have hVs : V.heap.size = w2.heap.size := by rw [← hV]; simp
  have g3 := grown_alloc (grown_alloc (grown_alloc g0 (.cells #[x2, y2, z2] t3)) (.cells #[cv2] t4)) (.cells #[x1, y1, z1, x2, y2, z2] t5)
  have gW : w1.grownBy ((w1.alloc (.cells #[x1, y1, z1] t1)).alloc (.cells #[cv1] t2)) (some p) := grown_alloc (grown_alloc ⟨rfl, rfl, rfl, Nat.le_refl _, fun _ _ _ => rfl⟩ _) _
  have g12 := grown_same gW hg2
  have hs1 := hg1.size
  have hs2 := hg2.size
  simp only [World.size_alloc] at hs2 hr2 hc2
  have hk : ∀ k, wc.heap.size ≤ k → k < w2.heap.size → (((V.alloc (.cells #[x2, y2, z2] t3)).alloc (.cells #[cv2] t4)).alloc (.cells #[x1, y1, z1, x2, y2, z2] t5)).heap[k]? = w2.heap[k]? := fun k h1 h2 => g3.block k h2 (by simp; omega)
  have hnew : ∀ i u, #[x1, y1, z1, x2, y2, z2][i]? = some u → (((V.alloc (.cells #[x2, y2, z2] t3)).alloc (.cells #[cv2] t4)).alloc (.cells #[x1, y1, z1, x2, y2, z2] t5)).cell? ⟨w2.heap.size + 1 + 1, i, none⟩ = some u := fun i u h => cell_new _ _ _ _ _ _ (by simp [hVs]) h
  have hA : ∀ k, wc.heap.size ≤ k → k < w1.heap.size → (((V.alloc (.cells #[x2, y2, z2] t3)).alloc (.cells #[cv2] t4)).alloc (.cells #[x1, y1, z1, x2, y2, z2] t5)).heap[k]? = w1.heap[k]? := fun k h1 h2 => (hk k h1 (by omega)).trans (g12.block k h2 (by simp; omega))
  refine ⟨_, _, h2, rfl, ⟨w2.heap.size + 1 + 1, 0, 2, x1, y1, z1, x2, y2, z2, rfl, by omega, by omega, by omega, hnew 0 x1 rfl, hnew 1 y1 rfl, hnew 2 z1 rfl, hnew 3 x2 rfl, hnew 4 y2 rfl, hnew 5 z2 rfl,
      hr1.keep hA (fun k h _ => by omega), hr2.keep (fun k h1 h2 => hk k (by omega) h2) (fun k h _ => by omega)⟩,
    ⟨w1.heap.size + 1, cv1, w2.heap.size + 1, cv2, rfl, by omega, by omega, g3.cell (a := ⟨w1.heap.size + 1, 0, none⟩) hj (by simp; omega), cell_past _ _ _ _ _ (cell_new _ _ _ _ _ _ (by simp [hVs]) rfl),
      hc1.keep hA (fun k h _ => by omega), hc2.keep (fun k h1 h2 => hk k (by omega) h2) (fun k h _ => by omega)⟩, hsl.keep fun k h3 h4 => ?_, ?_, ?_⟩
  · exact g3.block k (by omega) (by simp; omega)
  · exact (g3.block p (by omega) (by simp; omega)).trans hp
  · exact grown_trans (grown_trans (grown_trans hg hg1 (.inr rfl)) g12 (.inr rfl)) g3 (.inl (Nat.le_refl _))

theorem str_bin (o : Nat) (f g : Fm) : (⟨#[40]⟩ ++ ⟨f.text.toArray⟩ ++ ⟨#[signOf o]⟩ ++ ⟨g.text.toArray⟩ ++ ⟨#[41]⟩ : ByteArray) = ⟨(Fm.bin o f g).text.toArray⟩ := by
  have e : ∀ b : UInt8, (⟨#[b]⟩ : ByteArray) = ⟨[b].toArray⟩ := fun _ => rfl
  rw [e 40, e (signOf o), e 41, ByteArray.mk_append_mk, ByteArray.mk_append_mk, ByteArray.mk_append_mk, ByteArray.mk_append_mk]
  simp [Fm.text]

end Go.Proofs.YtjijlkiilmbdnaaGreatDoor
