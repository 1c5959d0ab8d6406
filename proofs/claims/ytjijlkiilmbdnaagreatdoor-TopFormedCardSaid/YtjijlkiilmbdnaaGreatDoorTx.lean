/- text, joined, Text: a formula's text. -/
import Derived.Test.YtjijlkiilmbdnaaGreatDoorFd
import Derived.Test.YtjijlkiilmbdnaaGreatDoorHb
namespace Go.Proofs.YtjijlkiilmbdnaaGreatDoor
open Go Go.RowKit

theorem join_empty (xs : List (List UInt8)) : Lib.join xs [] = xs.flatten := by
  cases xs with
  | nil => rfl
  | cons x xs => rw [Lib.join_cons]; simp [Lib.joinTail]

theorem map_back (xs : List (List UInt8)) : (xs.map (fun x => (⟨x.toArray⟩ : ByteArray))).map (·.data.toList) = xs := by
  induction xs with
  | nil => rfl
  | cons x xs ih => rw [List.map_cons, List.map_cons, ih]

theorem joined_any (bk : Nat) (xs : List (List UInt8)) (w : World) (hcells : ∀ (j : Nat) x, xs[j]? = some x → w.cell? ⟨bk, j, none⟩ = some (.string ⟨x.toArray⟩)) (hbk : bk < w.heap.size) (hN : xs.length ≤ 10) (hlen : xs.flatten.length ≤ 100000) :
    Calls Tryz.prog 48 #[.slice (some ⟨bk, 0, none⟩) xs.length xs.length] w fun e w' => e = .returned (.string ⟨xs.flatten.toArray⟩) ∧ Below w.heap.size w w' := by
  have hm : (xs.map (fun x => (⟨x.toArray⟩ : ByteArray))).map (·.data.toList) = xs := map_back xs
  have hj : Lib.join ((xs.map (fun x => (⟨x.toArray⟩ : ByteArray))).map (·.data.toList)) (ByteArray.mk #[]).data.toList = xs.flatten := by rw [hm]; exact join_empty xs
  have H := Tryz.strings_Join bk 0 xs.length (xs.map (fun x => (⟨x.toArray⟩ : ByteArray))) ⟨#[]⟩
  rw [hj, List.length_map] at H
  have K := hid (H w (fun j x hx => by
    rw [List.getElem?_map] at hx
    cases hj2 : xs[j]? with
    | none => rw [hj2] at hx; cases hx
    | some y => rw [hj2] at hx; cases hx; rw [Nat.zero_add]; exact hcells j y hj2) hbk (by omega) (Nat.le_refl _) (by omega))
  clear H hj hm hcells
  go_enter Tryz.func48, Tryz.ntmps48
  go_wp2_with (go_at_call 63; refine (K.out).mono ?_; rintro e w1 ⟨rfl, hb1⟩)
  go_ret
  exact ⟨rfl, hb1⟩

theorem cells_list (W : World) (xs : List (List UInt8)) (t n : Nat) (hn : n = W.heap.size) :
    ∀ (j : Nat) x, xs[j]? = some x → (W.alloc (.cells (xs.map (fun x => Value.string ⟨x.toArray⟩)).toArray t)).cell? ⟨n, j, none⟩ = some (.string ⟨x.toArray⟩) := fun j x hx =>
  cell_new _ _ _ _ _ _ hn (by simp [hx])

/-- What text comes to. -/
def TextSaid (f : Fm) : Prop := ∀ (A : Nat → Prop) (w : World) (v : Value), Rep A w f v →
  Calls Tryz.prog 27 #[v] w fun e w' => e = .returned (.string ⟨f.text.toArray⟩) ∧ Below w.heap.size w w'

theorem text_layer (n : Nat) (hn : n < 16) (w : World) :
    Calls Tryz.prog 27 #[.agg #[.int .i64 1, .int .i64 n, .slice none 0 0]] w fun e w' => e = .returned (.string ⟨(Fm.layer n).text.toArray⟩) ∧ Below w.heap.size w w' := by
  have hI := hid (Tryz.strconv_Itoa_small n (by omega))
  have hl := dec_len n hn
  go_enter Tryz.func27, Tryz.ntmps27
  go_wp2_with (go_at_call 37; refine (hI.out _).mono ?_; rintro e w1 ⟨rfl, rfl⟩)
  refine (joined_any (w.heap.size + 1) [[76], Lib.decDigits n] _ ?_ ?_ ?_ ?_).mono ?_
  · intro j x hx
    match j, hx with
    | 0, hx => cases hx; exact cell_new _ _ _ _ _ _ (by simp) rfl
    | 1, hx => cases hx; exact cell_new _ _ _ _ _ _ (by simp) rfl
  · simp
  · simp
  · simp; omega
  rintro e w1 ⟨rfl, hb1⟩
  go_wp2_with fail
  go_ret
  exact ⟨by simp [Fm.text], by (repeat (first | exact Below.refl _ _ | assumption | exact below_step (by assumption) (by assumption) | (refine Below.drew ?_) | (refine below_drewN ?_ _) | (refine Below.alloc ?_ (by first | omega | (simp; done) | (simp; omega)) _) | (refine Below.setCell ?_ (by first | omega | (simp; done) | (simp; omega)) _) | (refine Below.trans ?_ (Below.mono (by assumption) (by first | omega | (simp; done) | (simp; omega))))))⟩

set_option maxHeartbeats 400000 in
theorem text_not (f : Fm) (hf3 : f.text.length ≤ 4000) (ih : TextSaid f) (A : Nat → Prop) (w : World) (v : Value) (hr : Rep A w (.not f) v) :
    Calls Tryz.prog 27 #[v] w fun e w' => e = .returned (.string ⟨(Fm.not f).text.toArray⟩) ∧ Below w.heap.size w w' := by
  obtain ⟨b, off, cap, x, y, z, rfl, h1, h2, hA, hx, hy, hz, hf⟩ := hr
  have hlt := World.block_lt_of_cell? w _ hx
  obtain ⟨a, n, c, rfl, rfl, rfl⟩ := hf.cells
  have hf' := hid hf
  clear hf
  go_enter Tryz.func27, Tryz.ntmps27
  go_wp2_with fail
  refine (ih A _ _ (hf'.out.grew (B := w.heap.size) (by (repeat (first | exact Below.refl _ _ | assumption | exact below_step (by assumption) (by assumption) | (refine Below.drew ?_) | (refine below_drewN ?_ _) | (refine Below.alloc ?_ (by first | omega | (simp; done) | (simp; omega)) _) | (refine Below.setCell ?_ (by first | omega | (simp; done) | (simp; omega)) _) | (refine Below.trans ?_ (Below.mono (by assumption) (by first | omega | (simp; done) | (simp; omega))))))) (Nat.le_refl _))).mono ?_
  rintro e w1 ⟨rfl, hb1⟩
  go_wp2_with fail
  refine (joined_any w1.heap.size [[33], f.text] _ ?_ ?_ ?_ ?_).mono ?_
  · intro j x hx
    match j, hx with
    | 0, hx => cases hx; exact cell_new _ _ _ _ _ _ rfl rfl
    | 1, hx => cases hx; exact cell_new _ _ _ _ _ _ rfl rfl
  · simp
  · simp
  · simp; omega
  rintro e w2 ⟨rfl, hb2⟩
  have hB1 : Below w.heap.size w w1 := by (repeat (first | exact Below.refl _ _ | assumption | exact below_step (by assumption) (by assumption) | (refine Below.drew ?_) | (refine below_drewN ?_ _) | (refine Below.alloc ?_ (by first | omega | (simp; done) | (simp; omega)) _) | (refine Below.setCell ?_ (by first | omega | (simp; done) | (simp; omega)) _) | (refine Below.trans ?_ (Below.mono (by assumption) (by first | omega | (simp; done) | (simp; omega))))))
  have hs1 := hB1.size
  go_wp2_with fail
  go_ret
  exact ⟨by simp [Fm.text], by (repeat (first | exact Below.refl _ _ | assumption | exact below_step (by assumption) (by assumption) | (refine Below.drew ?_) | (refine below_drewN ?_ _) | (refine Below.alloc ?_ (by first | omega | (simp; done) | (simp; omega)) _) | (refine Below.setCell ?_ (by first | omega | (simp; done) | (simp; omega)) _) | (refine Below.trans ?_ (Below.mono (by assumption) (by first | omega | (simp; done) | (simp; omega))))))⟩

theorem held_start {w : World} {b off : Nat} {x y z x' y' z' : Value} {o : Int} {cs : Value} (hx : w.cell? ⟨b, off, none⟩ = some x) (hy : w.cell? ⟨b, off + 1, none⟩ = some y) (hz : w.cell? ⟨b, off + 2, none⟩ = some z)
    (hx' : w.cell? ⟨b, off + 3, none⟩ = some x') (hy' : w.cell? ⟨b, off + 3 + 1, none⟩ = some y') (hz' : w.cell? ⟨b, off + 3 + 2, none⟩ = some z') :
    let W := (w.alloc (.cells #[.int .i64 o, .int .i64 0, cs] 28)).drew
    Below w.heap.size w W ∧ W.cell? ⟨w.heap.size, 2, none⟩ = some cs ∧
      W.cell? ⟨b, off, none⟩ = some x ∧ W.cell? ⟨b, off + 1, none⟩ = some y ∧ W.cell? ⟨b, off + 2, none⟩ = some z ∧
      W.cell? ⟨b, off + 3, none⟩ = some x' ∧ W.cell? ⟨b, off + 3 + 1, none⟩ = some y' ∧ W.cell? ⟨b, off + 3 + 2, none⟩ = some z' :=
  ⟨((Below.refl _ _).alloc (Nat.le_refl _) _).drew, cell_new _ _ _ _ _ _ rfl rfl, cell_past _ _ _ _ _ hx, cell_past _ _ _ _ _ hy, cell_past _ _ _ _ _ hz, cell_past _ _ _ _ _ hx', cell_past _ _ _ _ _ hy', cell_past _ _ _ _ _ hz'⟩

theorem held_alloc {w v : World} {b off : Nat} {x y z x' y' z' cs : Value} (o : Obj)
    (h : Below w.heap.size w v ∧ v.cell? ⟨w.heap.size, 2, none⟩ = some cs ∧
      v.cell? ⟨b, off, none⟩ = some x ∧ v.cell? ⟨b, off + 1, none⟩ = some y ∧ v.cell? ⟨b, off + 2, none⟩ = some z ∧
      v.cell? ⟨b, off + 3, none⟩ = some x' ∧ v.cell? ⟨b, off + 3 + 1, none⟩ = some y' ∧ v.cell? ⟨b, off + 3 + 2, none⟩ = some z') :
    Below w.heap.size w (v.alloc o) ∧ (v.alloc o).cell? ⟨w.heap.size, 2, none⟩ = some cs ∧
      (v.alloc o).cell? ⟨b, off, none⟩ = some x ∧ (v.alloc o).cell? ⟨b, off + 1, none⟩ = some y ∧ (v.alloc o).cell? ⟨b, off + 2, none⟩ = some z ∧
      (v.alloc o).cell? ⟨b, off + 3, none⟩ = some x' ∧ (v.alloc o).cell? ⟨b, off + 3 + 1, none⟩ = some y' ∧ (v.alloc o).cell? ⟨b, off + 3 + 2, none⟩ = some z' := by
  obtain ⟨h0, h1, h2, h3, h4, h5, h6, h7⟩ := h
  exact ⟨h0.alloc h0.size _, cell_past _ _ _ _ _ h1, cell_past _ _ _ _ _ h2, cell_past _ _ _ _ _ h3, cell_past _ _ _ _ _ h4, cell_past _ _ _ _ _ h5, cell_past _ _ _ _ _ h6, cell_past _ _ _ _ _ h7⟩

set_option maxRecDepth 100000 in
set_option maxHeartbeats 1600000 in
theorem text_and (f g : Fm) (hf3 : f.text.length ≤ 4000) (hg3 : g.text.length ≤ 4000) (ih : TextSaid f) (ihg : TextSaid g) (A : Nat → Prop) (w : World) (v : Value) (hr : Rep A w (.bin 3 f g) v) :
    Calls Tryz.prog 27 #[v] w fun e w' => e = .returned (.string ⟨(Fm.bin 3 f g).text.toArray⟩) ∧ Below w.heap.size w w' := by
  obtain ⟨b, off, cap, x, y, z, x', y', z', rfl, h1, h2, hA, hx, hy, hz, hx', hy', hz', hf, hg⟩ := hr
  have hlt := World.block_lt_of_cell? w _ hx
  obtain ⟨a, n, c, rfl, rfl, rfl⟩ := hf.cells
  obtain ⟨a', n', c', rfl, rfl, rfl⟩ := hg.cells
  have hf' := hid hf
  have hg' := hid hg
  clear hf hg
  go_enter Tryz.func27, Tryz.ntmps27
  go_wp2_with fail
  have hsg : (((⟨#[38, 45, 94, 124]⟩ : ByteArray).extract (3 - 3) 4).extract 0 1) = ⟨#[signOf 3]⟩ := by decide +kernel
  simp only [Nat.reduceSub] at hsg
  rw [hsg]
  clear hsg
  have hst := held_start (o := 3) (cs := .slice (some ⟨b, off, none⟩) 2 cap) hx hy hz hx' hy' hz'
  dsimp only at hst
  go_region_held3 (fun w' => Below w.heap.size w w' ∧ w'.cell? ⟨w.heap.size, 2, none⟩ = some (.slice (some ⟨b, off, none⟩) 2 cap) ∧
      w'.cell? ⟨b, off, none⟩ = some (.int .i64 f.op) ∧ w'.cell? ⟨b, off + 1, none⟩ = some (.int .i64 f.lay) ∧ w'.cell? ⟨b, off + 2, none⟩ = some (.slice a n c) ∧
      w'.cell? ⟨b, off + 3, none⟩ = some (.int .i64 g.op) ∧ w'.cell? ⟨b, off + 3 + 1, none⟩ = some (.int .i64 g.lay) ∧ w'.cell? ⟨b, off + 3 + 2, none⟩ = some (.slice a' n' c'))
    (first
      | exact hst
      | exact held_alloc _ (by assumption)
      | (go_split_ands
         refine ⟨?_, ?_, keepc (by assumption) hx, keepc (by assumption) hy, keepc (by assumption) hz, keepc (by assumption) hx', keepc (by assumption) hy', keepc (by assumption) hz'⟩
         · assumption
         · assumption))
    (first
      | (go_at_call 27; refine Calls.mono (ih A _ _ ?_) ?_; (go_split_ands; exact hf'.out.grew (B := w.heap.size) (by assumption) (Nat.le_refl _)); rintro e w1 ⟨rfl, hb1⟩; go_split_ands; have k1 := below_step (w := w) (by assumption) hb1; have k2 := keepc hb1 (p := ⟨w.heap.size, 2, none⟩) (by assumption))
      | (go_at_call 27; refine Calls.mono (ihg A _ _ ?_) ?_; (go_split_ands; exact hg'.out.grew (B := w.heap.size) (by assumption) (Nat.le_refl _)); rintro e w2 ⟨rfl, hb2⟩; go_split_ands; have k3 := below_step (w := w) (by assumption) hb2; have k4 := keepc hb2 (p := ⟨w.heap.size, 2, none⟩) (by assumption))
      | (go_at_call 48; refine (joined_any _ [[40], f.text, [signOf 3], g.text, [41]] _ (cells_list _ [[40], f.text, [signOf 3], g.text, [41]] _ _ rfl) (by simp) (by simp) (by simp; omega)).mono ?_; rintro e w3 ⟨rfl, hb3⟩; go_split_ands; have k5 := below_step (w := w) (by assumption) hb3; have k6 := keepc hb3 (p := ⟨w.heap.size, 2, none⟩) (by assumption)))
  all_goals
    go_wp2_with fail
    go_ret
    exact ⟨by simp [Fm.text], k5⟩

set_option maxRecDepth 100000 in
set_option maxHeartbeats 1600000 in
theorem text_minus (f g : Fm) (hf3 : f.text.length ≤ 4000) (hg3 : g.text.length ≤ 4000) (ih : TextSaid f) (ihg : TextSaid g) (A : Nat → Prop) (w : World) (v : Value) (hr : Rep A w (.bin 4 f g) v) :
    Calls Tryz.prog 27 #[v] w fun e w' => e = .returned (.string ⟨(Fm.bin 4 f g).text.toArray⟩) ∧ Below w.heap.size w w' := by
  obtain ⟨b, off, cap, x, y, z, x', y', z', rfl, h1, h2, hA, hx, hy, hz, hx', hy', hz', hf, hg⟩ := hr
  have hlt := World.block_lt_of_cell? w _ hx
  obtain ⟨a, n, c, rfl, rfl, rfl⟩ := hf.cells
  obtain ⟨a', n', c', rfl, rfl, rfl⟩ := hg.cells
  have hf' := hid hf
  have hg' := hid hg
  clear hf hg
  go_enter Tryz.func27, Tryz.ntmps27
  go_wp2_with fail
  have hsg : (((⟨#[38, 45, 94, 124]⟩ : ByteArray).extract (4 - 3) 4).extract 0 1) = ⟨#[signOf 4]⟩ := by decide +kernel
  simp only [Nat.reduceSub] at hsg
  rw [hsg]
  clear hsg
  have hst := held_start (o := 4) (cs := .slice (some ⟨b, off, none⟩) 2 cap) hx hy hz hx' hy' hz'
  dsimp only at hst
  go_region_held3 (fun w' => Below w.heap.size w w' ∧ w'.cell? ⟨w.heap.size, 2, none⟩ = some (.slice (some ⟨b, off, none⟩) 2 cap) ∧
      w'.cell? ⟨b, off, none⟩ = some (.int .i64 f.op) ∧ w'.cell? ⟨b, off + 1, none⟩ = some (.int .i64 f.lay) ∧ w'.cell? ⟨b, off + 2, none⟩ = some (.slice a n c) ∧
      w'.cell? ⟨b, off + 3, none⟩ = some (.int .i64 g.op) ∧ w'.cell? ⟨b, off + 3 + 1, none⟩ = some (.int .i64 g.lay) ∧ w'.cell? ⟨b, off + 3 + 2, none⟩ = some (.slice a' n' c'))
    (first
      | exact hst
      | exact held_alloc _ (by assumption)
      | (go_split_ands
         refine ⟨?_, ?_, keepc (by assumption) hx, keepc (by assumption) hy, keepc (by assumption) hz, keepc (by assumption) hx', keepc (by assumption) hy', keepc (by assumption) hz'⟩
         · assumption
         · assumption))
    (first
      | (go_at_call 27; refine Calls.mono (ih A _ _ ?_) ?_; (go_split_ands; exact hf'.out.grew (B := w.heap.size) (by assumption) (Nat.le_refl _)); rintro e w1 ⟨rfl, hb1⟩; go_split_ands; have k1 := below_step (w := w) (by assumption) hb1; have k2 := keepc hb1 (p := ⟨w.heap.size, 2, none⟩) (by assumption))
      | (go_at_call 27; refine Calls.mono (ihg A _ _ ?_) ?_; (go_split_ands; exact hg'.out.grew (B := w.heap.size) (by assumption) (Nat.le_refl _)); rintro e w2 ⟨rfl, hb2⟩; go_split_ands; have k3 := below_step (w := w) (by assumption) hb2; have k4 := keepc hb2 (p := ⟨w.heap.size, 2, none⟩) (by assumption))
      | (go_at_call 48; refine (joined_any _ [[40], f.text, [signOf 4], g.text, [41]] _ (cells_list _ [[40], f.text, [signOf 4], g.text, [41]] _ _ rfl) (by simp) (by simp) (by simp; omega)).mono ?_; rintro e w3 ⟨rfl, hb3⟩; go_split_ands; have k5 := below_step (w := w) (by assumption) hb3; have k6 := keepc hb3 (p := ⟨w.heap.size, 2, none⟩) (by assumption)))
  all_goals
    go_wp2_with fail
    go_ret
    exact ⟨by simp [Fm.text], k5⟩

set_option maxRecDepth 100000 in
set_option maxHeartbeats 1600000 in
theorem text_xor (f g : Fm) (hf3 : f.text.length ≤ 4000) (hg3 : g.text.length ≤ 4000) (ih : TextSaid f) (ihg : TextSaid g) (A : Nat → Prop) (w : World) (v : Value) (hr : Rep A w (.bin 5 f g) v) :
    Calls Tryz.prog 27 #[v] w fun e w' => e = .returned (.string ⟨(Fm.bin 5 f g).text.toArray⟩) ∧ Below w.heap.size w w' := by
  obtain ⟨b, off, cap, x, y, z, x', y', z', rfl, h1, h2, hA, hx, hy, hz, hx', hy', hz', hf, hg⟩ := hr
  have hlt := World.block_lt_of_cell? w _ hx
  obtain ⟨a, n, c, rfl, rfl, rfl⟩ := hf.cells
  obtain ⟨a', n', c', rfl, rfl, rfl⟩ := hg.cells
  have hf' := hid hf
  have hg' := hid hg
  clear hf hg
  go_enter Tryz.func27, Tryz.ntmps27
  go_wp2_with fail
  have hsg : (((⟨#[38, 45, 94, 124]⟩ : ByteArray).extract (5 - 3) 4).extract 0 1) = ⟨#[signOf 5]⟩ := by decide +kernel
  simp only [Nat.reduceSub] at hsg
  rw [hsg]
  clear hsg
  have hst := held_start (o := 5) (cs := .slice (some ⟨b, off, none⟩) 2 cap) hx hy hz hx' hy' hz'
  dsimp only at hst
  go_region_held3 (fun w' => Below w.heap.size w w' ∧ w'.cell? ⟨w.heap.size, 2, none⟩ = some (.slice (some ⟨b, off, none⟩) 2 cap) ∧
      w'.cell? ⟨b, off, none⟩ = some (.int .i64 f.op) ∧ w'.cell? ⟨b, off + 1, none⟩ = some (.int .i64 f.lay) ∧ w'.cell? ⟨b, off + 2, none⟩ = some (.slice a n c) ∧
      w'.cell? ⟨b, off + 3, none⟩ = some (.int .i64 g.op) ∧ w'.cell? ⟨b, off + 3 + 1, none⟩ = some (.int .i64 g.lay) ∧ w'.cell? ⟨b, off + 3 + 2, none⟩ = some (.slice a' n' c'))
    (first
      | exact hst
      | exact held_alloc _ (by assumption)
      | (go_split_ands
         refine ⟨?_, ?_, keepc (by assumption) hx, keepc (by assumption) hy, keepc (by assumption) hz, keepc (by assumption) hx', keepc (by assumption) hy', keepc (by assumption) hz'⟩
         · assumption
         · assumption))
    (first
      | (go_at_call 27; refine Calls.mono (ih A _ _ ?_) ?_; (go_split_ands; exact hf'.out.grew (B := w.heap.size) (by assumption) (Nat.le_refl _)); rintro e w1 ⟨rfl, hb1⟩; go_split_ands; have k1 := below_step (w := w) (by assumption) hb1; have k2 := keepc hb1 (p := ⟨w.heap.size, 2, none⟩) (by assumption))
      | (go_at_call 27; refine Calls.mono (ihg A _ _ ?_) ?_; (go_split_ands; exact hg'.out.grew (B := w.heap.size) (by assumption) (Nat.le_refl _)); rintro e w2 ⟨rfl, hb2⟩; go_split_ands; have k3 := below_step (w := w) (by assumption) hb2; have k4 := keepc hb2 (p := ⟨w.heap.size, 2, none⟩) (by assumption))
      | (go_at_call 48; refine (joined_any _ [[40], f.text, [signOf 5], g.text, [41]] _ (cells_list _ [[40], f.text, [signOf 5], g.text, [41]] _ _ rfl) (by simp) (by simp) (by simp; omega)).mono ?_; rintro e w3 ⟨rfl, hb3⟩; go_split_ands; have k5 := below_step (w := w) (by assumption) hb3; have k6 := keepc hb3 (p := ⟨w.heap.size, 2, none⟩) (by assumption)))
  all_goals
    go_wp2_with fail
    go_ret
    exact ⟨by simp [Fm.text], k5⟩

set_option maxRecDepth 100000 in
set_option maxHeartbeats 1600000 in
theorem text_or (f g : Fm) (hf3 : f.text.length ≤ 4000) (hg3 : g.text.length ≤ 4000) (ih : TextSaid f) (ihg : TextSaid g) (A : Nat → Prop) (w : World) (v : Value) (hr : Rep A w (.bin 6 f g) v) :
    Calls Tryz.prog 27 #[v] w fun e w' => e = .returned (.string ⟨(Fm.bin 6 f g).text.toArray⟩) ∧ Below w.heap.size w w' := by
  obtain ⟨b, off, cap, x, y, z, x', y', z', rfl, h1, h2, hA, hx, hy, hz, hx', hy', hz', hf, hg⟩ := hr
  have hlt := World.block_lt_of_cell? w _ hx
  obtain ⟨a, n, c, rfl, rfl, rfl⟩ := hf.cells
  obtain ⟨a', n', c', rfl, rfl, rfl⟩ := hg.cells
  have hf' := hid hf
  have hg' := hid hg
  clear hf hg
  go_enter Tryz.func27, Tryz.ntmps27
  go_wp2_with fail
  have hsg : (((⟨#[38, 45, 94, 124]⟩ : ByteArray).extract (6 - 3) 4).extract 0 1) = ⟨#[signOf 6]⟩ := by decide +kernel
  simp only [Nat.reduceSub] at hsg
  rw [hsg]
  clear hsg
  have hst := held_start (o := 6) (cs := .slice (some ⟨b, off, none⟩) 2 cap) hx hy hz hx' hy' hz'
  dsimp only at hst
  go_region_held3 (fun w' => Below w.heap.size w w' ∧ w'.cell? ⟨w.heap.size, 2, none⟩ = some (.slice (some ⟨b, off, none⟩) 2 cap) ∧
      w'.cell? ⟨b, off, none⟩ = some (.int .i64 f.op) ∧ w'.cell? ⟨b, off + 1, none⟩ = some (.int .i64 f.lay) ∧ w'.cell? ⟨b, off + 2, none⟩ = some (.slice a n c) ∧
      w'.cell? ⟨b, off + 3, none⟩ = some (.int .i64 g.op) ∧ w'.cell? ⟨b, off + 3 + 1, none⟩ = some (.int .i64 g.lay) ∧ w'.cell? ⟨b, off + 3 + 2, none⟩ = some (.slice a' n' c'))
    (first
      | exact hst
      | exact held_alloc _ (by assumption)
      | (go_split_ands
         refine ⟨?_, ?_, keepc (by assumption) hx, keepc (by assumption) hy, keepc (by assumption) hz, keepc (by assumption) hx', keepc (by assumption) hy', keepc (by assumption) hz'⟩
         · assumption
         · assumption))
    (first
      | (go_at_call 27; refine Calls.mono (ih A _ _ ?_) ?_; (go_split_ands; exact hf'.out.grew (B := w.heap.size) (by assumption) (Nat.le_refl _)); rintro e w1 ⟨rfl, hb1⟩; go_split_ands; have k1 := below_step (w := w) (by assumption) hb1; have k2 := keepc hb1 (p := ⟨w.heap.size, 2, none⟩) (by assumption))
      | (go_at_call 27; refine Calls.mono (ihg A _ _ ?_) ?_; (go_split_ands; exact hg'.out.grew (B := w.heap.size) (by assumption) (Nat.le_refl _)); rintro e w2 ⟨rfl, hb2⟩; go_split_ands; have k3 := below_step (w := w) (by assumption) hb2; have k4 := keepc hb2 (p := ⟨w.heap.size, 2, none⟩) (by assumption))
      | (go_at_call 48; refine (joined_any _ [[40], f.text, [signOf 6], g.text, [41]] _ (cells_list _ [[40], f.text, [signOf 6], g.text, [41]] _ _ rfl) (by simp) (by simp) (by simp; omega)).mono ?_; rintro e w3 ⟨rfl, hb3⟩; go_split_ands; have k5 := below_step (w := w) (by assumption) hb3; have k6 := keepc hb3 (p := ⟨w.heap.size, 2, none⟩) (by assumption)))
  all_goals
    go_wp2_with fail
    go_ret
    exact ⟨by simp [Fm.text], k5⟩

theorem text_any (f : Fm) (hok : f.ok) (hl : f.text.length ≤ 4000) : TextSaid f := by
  induction f with
  | layer n => intro A w v hr; obtain rfl := hr; exact text_layer n hok w
  | not f ih => intro A w v hr; simp [Fm.text] at hl; exact text_not f (by omega) (ih hok (by omega)) A w v hr
  | bin o f g ih ihg =>
    intro A w v hr
    simp [Fm.text] at hl
    obtain ⟨h3, h6, hf, hg⟩ := hok
    obtain rfl | rfl | rfl | rfl : o = 3 ∨ o = 4 ∨ o = 5 ∨ o = 6 := by omega
    · exact text_and f g (by omega) (by omega) (ih hf (by omega)) (ihg hg (by omega)) A w v hr
    · exact text_minus f g (by omega) (by omega) (ih hf (by omega)) (ihg hg (by omega)) A w v hr
    · exact text_xor f g (by omega) (by omega) (ih hf (by omega)) (ihg hg (by omega)) A w v hr
    · exact text_or f g (by omega) (by omega) (ih hf (by omega)) (ihg hg (by omega)) A w v hr

theorem Text_any (f : Fm) (hok : f.ok) (hd : f.depth ≤ 32) (hp : f.parts ≤ 512) (hl : f.text.length ≤ 4000) (A : Nat → Prop) (w : World) (v : Value) (hr : Rep A w f v) :
    Calls Tryz.prog 6 #[v] w fun e w' => e = .returned (.tuple #[.string ⟨f.text.toArray⟩, .int .i64 0]) ∧ Below w.heap.size w w' := by
  obtain ⟨a, n, c, rfl⟩ := hr.agg
  have hr' := hid hr
  clear hr
  go_enter Tryz.func6, Tryz.ntmps6
  go_wp2_with fail
  refine (check_ok f hok hd hp A _ _ (hr'.out.grew (B := w.heap.size) (by (repeat (first | exact Below.refl _ _ | assumption | exact below_step (by assumption) (by assumption) | (refine Below.drew ?_) | (refine below_drewN ?_ _) | (refine Below.alloc ?_ (by first | omega | (simp; done) | (simp; omega)) _) | (refine Below.setCell ?_ (by first | omega | (simp; done) | (simp; omega)) _) | (refine Below.trans ?_ (Below.mono (by assumption) (by first | omega | (simp; done) | (simp; omega))))))) (Nat.le_refl _))).mono ?_
  rintro e w1 ⟨rfl, hb1⟩
  have hB1 : Below w.heap.size w w1 := by (repeat (first | exact Below.refl _ _ | assumption | exact below_step (by assumption) (by assumption) | (refine Below.drew ?_) | (refine below_drewN ?_ _) | (refine Below.alloc ?_ (by first | omega | (simp; done) | (simp; omega)) _) | (refine Below.setCell ?_ (by first | omega | (simp; done) | (simp; omega)) _) | (refine Below.trans ?_ (Below.mono (by assumption) (by first | omega | (simp; done) | (simp; omega))))))
  have k1 : w1.cell? ⟨w.heap.size, 0, none⟩ = some (.int .i64 f.op) := by rw [hb1.cell (by first | omega | (simp; done) | (simp; omega))]; simp [go_sem]
  have k2 : w1.cell? ⟨w.heap.size, 1, none⟩ = some (.int .i64 f.lay) := by rw [hb1.cell (by first | omega | (simp; done) | (simp; omega))]; simp [go_sem]
  have k3 : w1.cell? ⟨w.heap.size, 2, none⟩ = some (.slice a n c) := by rw [hb1.cell (by first | omega | (simp; done) | (simp; omega))]; simp [go_sem]
  clear hb1
  go_wp2_with fail
  refine (text_any f hok hl A _ _ (hr'.out.grew hB1 (Nat.le_refl _))).mono ?_
  rintro e w2 ⟨rfl, hb2⟩
  go_wp2_with fail
  go_ret2
  exact ⟨rfl, below_step hB1 hb2⟩

end Go.Proofs.YtjijlkiilmbdnaaGreatDoor
