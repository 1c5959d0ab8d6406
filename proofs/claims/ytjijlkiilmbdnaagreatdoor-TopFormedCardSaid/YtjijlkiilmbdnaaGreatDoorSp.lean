/- spoken: a formula is told, read, and true as one writes, and works, it out. -/
import Derived.Test.YtjijlkiilmbdnaaGreatDoorF4
import Derived.Test.YtjijlkiilmbdnaaGreatDoorTx
import Derived.Test.YtjijlkiilmbdnaaGreatDoorPs
import Derived.Test.YtjijlkiilmbdnaaGreatDoorSm
import Derived.Test.YtjijlkiilmbdnaaGreatDoorLy
import Derived.Test.YtjijlkiilmbdnaaGreatDoorBe
import Derived.Test.YtjijlkiilmbdnaaGreatDoorPl
import Derived.Test.YtjijlkiilmbdnaaGreatDoorQa
import Derived.RangeFuncCalls
namespace Go.Proofs.YtjijlkiilmbdnaaGreatDoor
open Go Go.RowKit

theorem signs_ascii : ∀ (j : Nat) b, (⟨#[38, 45, 94, 124]⟩ : ByteArray).data.toList[j]? = some b → b.toNat < 128 := by
  intro j b h
  have hb : b ∈ ([38, 45, 94, 124] : List UInt8) := List.mem_of_getElem? h
  simp at hb
  rcases hb with rfl | rfl | rfl | rfl <;> decide

theorem text_ascii (f : Fm) (hok : f.ok) : ∀ b ∈ f.text, b.toNat < 128 := by
  induction f with
  | layer n =>
    intro b hb
    simp only [Fm.text, List.mem_cons] at hb
    rcases hb with rfl | hb
    · decide
    · rw [digs n hok] at hb
      have h16 : n < 16 := hok
      split at hb
      · simp only [List.mem_cons, List.not_mem_nil, or_false] at hb; subst hb; simp; omega
      · simp only [List.mem_cons, List.not_mem_nil, or_false] at hb
        rcases hb with rfl | rfl
        · decide
        · simp; omega
  | not f ih =>
    intro b hb
    simp only [Fm.text, List.mem_cons] at hb
    rcases hb with rfl | hb
    · decide
    · exact ih hok b hb
  | bin o f g ih ihg =>
    intro b hb
    simp only [Fm.text, List.mem_cons, List.mem_append, List.not_mem_nil, or_false] at hb
    rcases hb with rfl | hb | rfl | hb | rfl
    · decide
    · exact ih hok.2.2.1 b hb
    · unfold signOf; split; decide; split; decide; split <;> decide
    · exact ihg hok.2.2.2 b hb
    · decide

theorem behindOf_mem (word : List UInt8) : ∀ (n : Nat) (s : List UInt8), (∀ b ∈ behindOf word n s, b ∈ s) ∧ (behindOf word n s).length ≤ n := by
  intro n
  induction n with
  | zero => intro s; simp [behindOf]
  | succ n ih =>
    intro s
    simp only [behindOf]
    split
    · simp
    · obtain ⟨h1, h2⟩ := ih (s.drop ((Lib.index s word).toNat + word.length))
      refine ⟨fun b hb => ?_, ?_⟩
      · rw [List.mem_append] at hb
        rcases hb with hb | hb
        · exact List.mem_of_mem_drop (List.mem_of_mem_take hb)
        · exact List.mem_of_mem_drop (h1 b hb)
      · rw [List.length_append]
        have := List.length_take_le 1 (s.drop ((Lib.index s word).toNat + word.length))
        omega

theorem due_succ (f : Fm) (k : Nat) : dueUpTo f (k + 1) = dueUpTo f k ++ (if stands f k then [(k : Int)] else []) := by
  simp only [dueUpTo, List.range_succ, List.filter_append, List.map_append]
  congr 1
  cases h : stands f k <;> simp [h]

/-- How many parts have been counted. -/
def Cnt (M : Nat) (W : World) (pre : List Fm) (V : World) : Prop := V.heap[M]? = some (.cells #[.int .i64 (pre.length : Nat)] 3 (0, 0)) ∧ Below M W V
theorem Cnt.step {M L : Nat} {W V V' : World} {pre : List Fm} (hL : M < L) (h : Cnt M W pre V) (hg : V.grownBy V' (some L)) : Cnt M W pre V' :=
  ⟨(hg.block _ (lt_of_block h.1) (by simp; omega)).trans h.1, h.2.grown hg (Nat.le_of_lt (lt_of_block h.1)) (fun k hk => by cases hk; omega)⟩

theorem Cnt.add {M : Nat} {W V : World} {pre : List Fm} (x : Fm) (h : Cnt M W pre V) : Cnt M W (pre ++ [x]) (V.setCell ⟨M, 0, none⟩ (.int .i64 ((pre.length : Int) + 1))) ∧ KeepO Stays V (V.setCell ⟨M, 0, none⟩ (.int .i64 ((pre.length : Int) + 1))) := by
  refine ⟨⟨?_, h.2.setCell (p := ⟨M, 0, none⟩) (Nat.le_refl _) _⟩, KeepO.grown (grownBy_setCell' V M _) h.1 (not_stays (by decide))⟩
  have := block_set (i := 0) (.int .i64 ((pre.length : Int) + 1)) h.1
  rw [List.length_append]
  exact this

theorem Cnt.below {M : Nat} {W V V' : World} {pre : List Fm} (h : Cnt M W pre V) (hb : Below V.heap.size V V') : Cnt M W pre V' :=
  ⟨(hb.block _ (lt_of_block h.1)).trans h.1, h.2.trans (hb.mono (Nat.le_of_lt (lt_of_block h.1)))⟩

/-- A row of masks that came in. -/
def SlM (w : World) (v : Value) (ms : List Int) : Prop := (v = .slice none 0 0 ∧ ms = []) ∨
  ∃ (a : Addr) (c : Nat), v = .slice (some a) ms.length c ∧ ∀ i x, ms[i]? = some x → w.cell? (a.add i) = some (.int .u16 x) ∧ 0 ≤ x ∧ x < 65536

theorem due_pos (f : Fm) (hok : f.ok) : 0 < (dueUpTo f 16).length := by
  rw [← due_law f hok]
  have h := laysOf_pos f hok
  obtain ⟨x, hx⟩ := List.exists_mem_of_length_pos h
  exact List.length_pos_of_mem ((onceOf_law _).2 x |>.2 hx)

/-- A row of integers that is not empty, cell by cell. -/
theorem row_vals (c : Int → Value) {w : World} {B e n : Nat} {v : Value} {zs : List Int} {xs : List Value} (hx : xs = zs.map c) (hn : n = zs.length) (hz : 0 < zs.length) (h : w.ownsRow B e 1 v n xs) :
    ∃ g cap, v = .slice (some ⟨g, 0, none⟩) n cap ∧ B ≤ g ∧ ∀ j, j < zs.length → w.cell? ⟨g, 0 + j, none⟩ = some (c (zs.getD j 0)) := by
  subst hx hn
  obtain ⟨_, h | ⟨g, cap, cur, rfl, hg, hh, h1, h2, h3, h4⟩⟩ := h
  · have := h.2; omega
  · refine ⟨g, cap, rfl, hg, fun j hj => ?_⟩
    have h5 : cur.toList[j]? = some (c (zs.getD j 0)) := by
      have h6 := congrArg (fun l : List Value => l[j]?) h4
      simp only [Nat.mul_one, List.getElem?_take, if_pos hj, List.getElem?_map] at h6
      rw [h6, List.getElem?_eq_getElem hj]
      simp [List.getD, hj]
    rw [Nat.zero_add]
    simp only [World.cell?, hh]
    rw [← Array.getElem?_toList]
    exact h5

theorem infoU16 : (Tryz.prog.info? 44).map (fun i => (i.zero, i.size, i.bytes)) = some (some (.int .u16 0), 1, 2) := by kernel_rfl

theorem lit_row (W : World) : (W.alloc (.cells #[.int .u16 0, .int .u16 1, .int .u16 2, .int .u16 3, .int .u16 65535] 44)).ownsRow W.heap.size 44 1 (.slice (some ⟨W.heap.size, 0, none⟩) 5 5) 5 ([0, 1, 2, 3, 65535].map (Value.int .u16)) :=
  ⟨rfl, .inr ⟨W.heap.size, 5, _, rfl, Nat.le_refl _, heap_alloc_new _ _, by decide, by decide, rfl, rfl⟩⟩

theorem masks_in (ms : List Int) (h : ∀ x ∈ ms, 0 ≤ x ∧ x < 65536) : ∀ k, 0 ≤ (([0, 1, 2, 3, 65535] : List Int) ++ ms).getD k 0 ∧ (([0, 1, 2, 3, 65535] : List Int) ++ ms).getD k 0 < 65536 := by
  have h1 : ∀ x ∈ ([0, 1, 2, 3, 65535] : List Int) ++ ms, 0 ≤ x ∧ x < 65536 := by
    intro x hx
    rcases List.mem_append.1 hx with hx | hx
    · simp at hx; omega
    · exact h x hx
  intro k
  rw [List.getD_eq_getElem?_getD]
  cases e : (([0, 1, 2, 3, 65535] : List Int) ++ ms)[k]? with
  | none => simp
  | some x => exact h1 x (List.mem_of_getElem? e)

theorem count_any (f : Fm) (c : UInt8) (n : Nat) (hn : f.text.count c = n) (w : World) : Calls Tryz.prog 18 #[.string ⟨f.text.toArray⟩, .string ⟨#[c]⟩] w fun e w' => e = .returned (.int .i64 n) ∧ w' = w := by
  subst hn
  exact Tryz.strings_Count_one ⟨f.text.toArray⟩ c w

theorem equal_rows (zs : List Int) (g k g' k' : Nat) (w : World) (hz : zs.length ≤ 16) (h1 : ∀ j, j < zs.length → w.cell? ⟨g, 0 + j, none⟩ = some (.int .i64 (zs.getD j 0))) (h2 : ∀ j, j < zs.length → w.cell? ⟨g', 0 + j, none⟩ = some (.int .i64 (zs.getD j 0))) :
    Calls Tryz.prog 17 #[.slice (some ⟨g, 0, none⟩) zs.length k, .slice (some ⟨g', 0, none⟩) zs.length k'] w fun e w' => e = .returned (.bool true) ∧ ∃ q, w' = w.drewN q := by
  have := Tryz.slices_Equal_int g 0 zs.length k g' 0 zs.length k' zs zs w (Nat.le_refl _) (Nat.le_refl _) (by omega) (by omega) h1 h2
  simpa using this

theorem lt_ty {w : World} {k : Nat} (h : TyFm w k) : k < w.heap.size := by obtain ⟨o, ho, _⟩ := h; exact lt_of_block ho

theorem all_head (f : Fm) : ∃ tl, f.all = f :: tl := by cases f <;> exact ⟨_, rfl⟩

theorem due_le (f : Fm) (k : Nat) : (dueUpTo f k).length ≤ k := by
  simp only [dueUpTo, List.length_map]
  exact Nat.le_trans (List.length_filter_le _ _) (by simp)

attribute [local go_sem] Oper.semAt_some

set_option maxRecDepth 100000 in
set_option maxHeartbeats 4000000 in
theorem spoken_any (bs : List UInt8) (hlen : bs.length ≤ 80) (ms : List Int) (hms : ms.length ≤ 20) (w : World) (h mv : Value) (hs : SlB w w.heap.size w.heap.size h bs) (hmv : SlM w mv ms) (m : Int) (hm : w.cell? ⟨0, 0, none⟩ = some (.int .i64 m)) :
    Calls Tryz.prog 4 #[h, mv] w fun e w' => e = .returned (.bool true) ∧ Below w.heap.size w w' := by
  obtain ⟨ha, hc, rfl⟩ := hs.form
  have hm0 := World.block_lt_of_cell? w _ hm
  have hsH := hid hs
  have hmvH := hid hmv
  clear hs hmv
  refine (callsIn_wide (n := 0)).1 (callsIn_of_wp_marks Tryz.func4 rfl trivial ?_ rfl)
  refine wpIn_wide.2 ?_
  simp only [Tryz.ntmps4, List.size_toArray, List.length_cons, List.length_nil, Nat.reduceAdd, Nat.reduceSub, Array.replicate_succ, Array.replicate_zero, List.push_toArray, List.append_toArray, List.nil_append, List.cons_append]
  go_wp2_with fail
  refine (formed_any 5 (by omega) _ w.heap.size w.heap.size (.slice ha bs.length hc) bs hlen (by simp; omega) (hsH.out.keep fun k h1 h2 => ?_) ?_).mono ?_
  · rw [Below.heap_alloc _ _ _ (by first | omega | (simp; done) | (simp; omega)), Below.heap_alloc _ _ _ (by first | omega | (simp; done) | (simp; omega))]
  · rw [Below.heap_alloc _ _ _ (by first | omega | (simp; done) | (simp; omega))]; exact heap_alloc_new w _
  rintro e w1 ⟨v, c, h', rfl, hv, hcl, _, _, hG1⟩
  have hok := mk_ok 5 bs
  have hdp : (mk 5 bs).1.depth ≤ 6 := mk_depth 5 bs
  have hpt : (mk 5 bs).1.parts + 1 ≤ 64 := mk_parts 5 bs
  have htx := mk_text 5 (by omega) bs
  have hE1 : w1.heap[w.heap.size + 1]? = some (.cells #[.bool false] 4 (0, 0)) := (hG1.block _ (by simp) (by simp)).trans (by have := heap_alloc_new (w.alloc (.cells #[.slice ha bs.length hc] 22)) (.cells #[.bool false] 4); rwa [World.size_alloc] at this)
  have hB1 : Below w.heap.size w w1 := Below.grown (show Below w.heap.size w ((w.alloc (.cells #[.slice ha bs.length hc] 22)).alloc (.cells #[.bool false] 4)) by (repeat (first | exact Below.refl _ _ | assumption | exact below_step (by assumption) (by assumption) | (refine Below.drew ?_) | (refine below_drewN ?_ _) | (refine Below.alloc ?_ (by first | omega | (simp; done) | (simp; omega)) _) | (refine Below.setCell ?_ (by first | omega | (simp; done) | (simp; omega)) _) | (refine Below.trans ?_ (Below.mono (by assumption) (by first | omega | (simp; done) | (simp; omega))))))) hG1 (by simp; omega) (fun k hk => by cases hk; exact Nat.le_refl _)
  have hs1 := hG1.size
  simp only [World.size_alloc] at hs1 hv hcl
  clear hG1
  obtain ⟨f, hf⟩ : ∃ f, (mk 5 bs).1 = f := ⟨_, rfl⟩
  rw [hf] at hv hcl hok hdp hpt htx
  rw [hf]
  clear hf
  obtain ⟨a, n, cc, rfl⟩ := hv.agg
  obtain ⟨caps, rfl⟩ := hcl.form
  have hen := clo_enters f
  have hvH := hid hv
  have hcH := hid hcl
  have hE1H := hid hE1
  clear hv hcl hE1
  go_wp2_with fail
  refine (Text_any f hok (by omega) (by omega) (by omega) _ _ _ (hvH.out.grew (B := w1.heap.size) ((Below.refl _ _).alloc (Nat.le_refl _) _) (Nat.le_refl _))).mono ?_
  rintro e w2 ⟨rfl, hb2⟩
  have hF2 : w2.heap[w1.heap.size]? = _ := (hb2.block _ (by simp)).trans (heap_alloc_new w1 _)
  have hB12 : Below w1.heap.size w1 w2 := by (repeat (first | exact Below.refl _ _ | assumption | exact below_step (by assumption) (by assumption) | (refine Below.drew ?_) | (refine below_drewN ?_ _) | (refine Below.alloc ?_ (by first | omega | (simp; done) | (simp; omega)) _) | (refine Below.setCell ?_ (by first | omega | (simp; done) | (simp; omega)) _) | (refine Below.trans ?_ (Below.mono (by assumption) (by first | omega | (simp; done) | (simp; omega))))))
  obtain ⟨p0, p1, p2, _, _, _⟩ := three_cells hF2
  have hs2 := lt_of_block hF2
  have hF2H := hid hF2
  clear hb2 hF2
  go_wp2_with fail
  refine (Parse_any f hok (by omega) (by omega) (by omega) w2).mono ?_
  rintro e w3 ⟨v', rfl, hv', hb3⟩
  obtain ⟨a', n', cc', rfl⟩ := hv'.agg
  have hB13 := below_step hB12 hb3
  have hF3 := (hb3.block _ hs2).trans hF2H.out
  have hs3 := hb3.size
  clear p0 p1 p2
  obtain ⟨p0, p1, p2, _, _, _⟩ := three_cells hF3
  have hF3H := hid hF3
  have hv'H := hid hv'
  have hl3 : w1.heap.size < w3.heap.size := by omega
  clear hF3 hv' hb3
  go_wp2_with fail
  have hB13a : Below w1.heap.size w1 (w3.alloc (.cells #[.int .i64 f.op, .int .i64 f.lay, .slice a' n' cc'] 28)) := hB13.alloc (by omega) _
  refine (Wide_any f hok (by omega) (by omega) _ _ _ (hvH.out.grew (B := w1.heap.size) hB13a (Nat.le_refl _))).mono ?_
  rintro e w4 ⟨rfl, hb4⟩
  have hB14 := below_step hB13a hb4
  have hF4 : w4.heap[w1.heap.size]? = _ := (hb4.block _ (by simp; omega)).trans ((Below.heap_alloc _ _ _ hl3).trans hF3H.out)
  have hP4 : w4.heap[w3.heap.size]? = _ := (hb4.block _ (by simp)).trans (heap_alloc_new w3 _)
  have hv4 : Rep (fun k => w2.heap.size ≤ k) w4 f _ := hv'H.out.grew (B := w3.heap.size) (Below.trans ((Below.refl _ _).alloc (Nat.le_refl _) _) (hb4.mono (by simp))) (Nat.le_refl _)
  have hs4 := lt_of_block hP4
  have hl4 := lt_of_block hF4
  clear p0 p1 p2
  obtain ⟨p0, p1, p2, _, _, _⟩ := three_cells hF4
  have hF4H := hid hF4
  have hP4H := hid hP4
  have hv4H := hid hv4
  clear hF4 hP4 hv4 hb4
  go_wp2_with fail
  refine (Layers_any f hok (by omega) (by omega) _ _ _ (hvH.out.grew (B := w1.heap.size) hB14 (Nat.le_refl _))).mono ?_
  rintro e w5 ⟨ul, rfl, hul, hb5⟩
  have hB15 := below_step hB14 hb5
  have hF5 : w5.heap[w1.heap.size]? = _ := (hb5.block _ hl4).trans hF4H.out
  have hP5 : w5.heap[w3.heap.size]? = _ := (hb5.block _ hs4).trans hP4H.out
  have hv5 : Rep (fun k => w2.heap.size ≤ k) w5 f _ := hv4H.out.grew (B := w4.heap.size) hb5 (Nat.le_refl _)
  have hulf := hul.2
  have hs5 := lt_of_block hP5
  have hl5 := lt_of_block hF5
  clear p0 p1 p2
  obtain ⟨p0, p1, p2, _, _, _⟩ := three_cells hF5
  obtain ⟨q0, q1, q2, _, _, _⟩ := three_cells hP5
  have hF5H := hid hF5
  have hP5H := hid hP5
  have hv5H := hid hv5
  have hulH := hid hul
  clear hF5 hP5 hv5 hb5 hulf hul
  go_wp2_with fail
  refine (alike_any f _ _ _ _ _ hv5H.out (hvH.out.grew (B := w1.heap.size) hB15 (Nat.le_refl _))).mono ?_
  rintro e w6 ⟨rfl, hb6⟩
  have hB16 := below_step hB15 hb6
  have hF6 : w6.heap[w1.heap.size]? = _ := (hb6.block _ hl5).trans hF5H.out
  have hP6 : w6.heap[w3.heap.size]? = _ := (hb6.block _ hs5).trans hP5H.out
  have hv6 : Rep (fun k => w2.heap.size ≤ k) w6 f _ := hv5H.out.grew (B := w5.heap.size) hb6 (Nat.le_refl _)
  have hul6 := own_below (hulH).out hb6
  have hs6 := lt_of_block hP6
  have hl6 := lt_of_block hF6
  clear p0 p1 p2 q0 q1 q2
  obtain ⟨p0, p1, p2, _, _, _⟩ := three_cells hF6
  obtain ⟨q0, q1, q2, _, _, _⟩ := three_cells hP6
  have hF6H := hid hF6
  have hP6H := hid hP6
  have hv6H := hid hv6
  have hul6H := hid hul6
  clear hF6 hP6 hv6 hb6 hul6
  go_wp2_with fail
  refine (Same_any f hok (by omega) (by omega) _ _ _ _ _ hv6H.out (hvH.out.grew (B := w1.heap.size) hB16 (Nat.le_refl _))).mono ?_
  rintro e w7 ⟨rfl, hb7⟩
  have hB17 := below_step hB16 hb7
  have hF7 : w7.heap[w1.heap.size]? = _ := (hb7.block _ hl6).trans hF6H.out
  have hP7 : w7.heap[w3.heap.size]? = _ := (hb7.block _ hs6).trans hP6H.out
  have hv7 : Rep (fun k => w2.heap.size ≤ k) w7 f _ := hv6H.out.grew (B := w6.heap.size) hb7 (Nat.le_refl _)
  have hul7 := own_below (hul6H).out hb7
  have hs7 := lt_of_block hP7
  have hl7 := lt_of_block hF7
  clear p0 p1 p2 q0 q1 q2
  obtain ⟨p0, p1, p2, _, _, _⟩ := three_cells hF7
  obtain ⟨q0, q1, q2, _, _, _⟩ := three_cells hP7
  have hF7H := hid hF7
  have hP7H := hid hP7
  have hv7H := hid hv7
  have hul7H := hid hul7
  clear hF7 hP7 hv7 hb7 hul7
  go_wp2_with fail
  refine (is_any 0 (by omega) (by omega) f hok _ _ _ (hcH.out.grew hB17 (Nat.le_refl _))).mono ?_
  rintro e w8 ⟨rfl, hb8⟩
  have hB18 := below_step hB17 hb8
  have hF8 : w8.heap[w1.heap.size]? = _ := (hb8.block _ hl7).trans hF7H.out
  have hP8 : w8.heap[w3.heap.size]? = _ := (hb8.block _ hs7).trans hP7H.out
  have hv8 : Rep (fun k => w2.heap.size ≤ k) w8 f _ := hv7H.out.grew (B := w7.heap.size) hb8 (Nat.le_refl _)
  have hul8 := own_below (hul7H).out hb8
  have hs8 := lt_of_block hP8
  have hl8 := lt_of_block hF8
  clear p0 p1 p2 q0 q1 q2
  obtain ⟨p0, p1, p2, _, _, _⟩ := three_cells hF8
  obtain ⟨q0, q1, q2, _, _, _⟩ := three_cells hP8
  have hF8H := hid hF8
  have hP8H := hid hP8
  have hv8H := hid hv8
  have hul8H := hid hul8
  clear hF8 hP8 hv8 hb8 hul8
  go_wp2_with fail
  obtain ⟨i0, hi, hz0, hz1, hz2⟩ := info_parts infoInt
  obtain ⟨hd16, hrow0⟩ : dueUpTo f 0 = [] ∧ w8.ownsRow w8.heap.size 3 1 (.slice none 0 0) 0 [] := ⟨rfl, World.ownsRow_nil _ _ _ _⟩
  refine wp_loop (fun aa W => ∃ (k : Nat) (vd : Value), k ≤ 16 ∧ Below w8.heap.size w8 W ∧ W.ownsRow w8.heap.size 3 1 vd (dueUpTo f k).length ((dueUpTo f k).map (Value.int .i64)) ∧ ∃ x17 x87 x88 x89 x90 x91 x92 x93 x94 x95 x96 x97 x98 x99 x100 x101 x102 x103 x104 x105 x106 x107 x108 : Value, aa = { tmps := #[Value.slice ha bs.length hc, mv, Value.pointer (some { block := w.heap.size, off := 0 }), undef, Value.pointer (some { block := w.heap.size + 1, off := 0 }), Value.pointer (some { block := w1.heap.size, off := 0 }), Value.string { data := f.text.toArray }, Value.func (Fn.func f.clo) #[] caps, Value.string { data := f.text.toArray }, Value.int IntKind.i64 0, Value.pointer (some { block := w3.heap.size, off := 0 }), Value.int IntKind.i64 0, Value.bool (Fm.holds 0 f), Value.int IntKind.i64 0, ul, Value.int IntKind.i64 0, vd, x17, undef, undef, undef, undef, undef, undef, Value.tuple #[Value.agg #[Value.int IntKind.i64 ↑f.op, Value.int IntKind.i64 ↑f.lay, Value.slice a n cc], Value.string { data := f.text.toArray }, Value.func (Fn.func f.clo) #[] caps], Value.tuple #[Value.agg #[Value.int IntKind.i64 ↑f.op, Value.int IntKind.i64 ↑f.lay, Value.slice a n cc], Value.string { data := f.text.toArray }, Value.func (Fn.func f.clo) #[] caps], Value.agg #[Value.int IntKind.i64 ↑f.op, Value.int IntKind.i64 ↑f.lay, Value.slice a n cc], Value.string { data := f.text.toArray }, Value.func (Fn.func f.clo) #[] caps, Value.tuple #[Value.string { data := f.text.toArray }, Value.int IntKind.i64 0], Value.agg #[Value.int IntKind.i64 ↑f.op, Value.int IntKind.i64 ↑f.lay, Value.slice a n cc], Value.tuple #[Value.string { data := f.text.toArray }, Value.int IntKind.i64 0], Value.string { data := f.text.toArray }, Value.int IntKind.i64 0, Value.tuple #[Value.agg #[Value.int IntKind.i64 ↑f.op, Value.int IntKind.i64 ↑f.lay, Value.slice a' n' cc'], Value.int IntKind.i64 0], Value.string { data := f.text.toArray }, Value.tuple #[Value.agg #[Value.int IntKind.i64 ↑f.op, Value.int IntKind.i64 ↑f.lay, Value.slice a' n' cc'], Value.int IntKind.i64 0], Value.agg #[Value.int IntKind.i64 ↑f.op, Value.int IntKind.i64 ↑f.lay, Value.slice a' n' cc'], Value.int IntKind.i64 0, Value.tuple #[Value.bool (Fm.holds 0 f), Value.int IntKind.i64 0], Value.agg #[Value.int IntKind.i64 ↑f.op, Value.int IntKind.i64 ↑f.lay, Value.slice a n cc], Value.tuple #[Value.bool (Fm.holds 0 f), Value.int IntKind.i64 0], Value.bool (Fm.holds 0 f), Value.int IntKind.i64 0, Value.tuple #[ul, Value.int IntKind.i64 0], Value.agg #[Value.int IntKind.i64 ↑f.op, Value.int IntKind.i64 ↑f.lay, Value.slice a n cc], Value.tuple #[ul, Value.int IntKind.i64 0], ul, Value.int IntKind.i64 0, Value.int IntKind.i64 0, Value.bool false, Value.bool false, Value.int IntKind.i64 0, Value.bool false, Value.bool false, Value.bool false, Value.int IntKind.i64 0, Value.bool false, Value.bool false, Value.bool false, Value.int IntKind.i64 0, Value.bool false, Value.bool false, Value.bool false, Value.string { data := f.text.toArray }, Value.string { data := f.text.toArray }, Value.bool false, Value.bool false, Value.bool false, Value.agg #[Value.int IntKind.i64 ↑f.op, Value.int IntKind.i64 ↑f.lay, Value.slice a' n' cc'], Value.agg #[Value.int IntKind.i64 ↑f.op, Value.int IntKind.i64 ↑f.lay, Value.slice a n cc], Value.bool true, Value.bool false, Value.bool false, Value.bool false, Value.agg #[Value.int IntKind.i64 ↑f.op, Value.int IntKind.i64 ↑f.lay, Value.slice a' n' cc'], Value.agg #[Value.int IntKind.i64 ↑f.op, Value.int IntKind.i64 ↑f.lay, Value.slice a n cc], Value.bool true, Value.bool false, Value.bool false, Value.bool false, Value.bool (Fm.holds 0 f), Value.func (Fn.func f.clo) #[] caps, Value.bool (Fm.holds 0 f), Value.bool false, Value.bool false, Value.int .i64 k, x87, x88, x89, x90, x91, x92, x93, x94, x95, x96, x97, x98, x99, x100, x101, x102, x103, x104, x105, x106, x107, x108, undef, undef, undef, undef, undef, undef, undef, undef, undef, undef, undef, undef, undef, undef, undef, undef, undef, undef, undef, undef, undef, undef, undef, undef, undef, undef, undef, undef, undef, undef, undef, undef, undef, undef, undef, undef, undef, undef, undef, undef, undef, undef, undef, undef, undef, undef, undef, undef, undef, undef, undef, undef, undef], defers := [] }) (fun a _ => 17 - intOf (a.tmps.getD 86 undef)) ⟨0, _, by omega, Below.refl _ _, hrow0, _, _, _, _, _, _, _, _, _, _, _, _, _, _, _, _, _, _, _, _, _, _, _, rfl⟩ ?_
  rintro aa W ⟨k, vd, hk, hBW, hrow, x17, x87, x88, x89, x90, x91, x92, x93, x94, x95, x96, x97, x98, x99, x100, x101, x102, x103, x104, x105, x106, x107, x108, rfl⟩
  have hmW : W.cell? ⟨0, 0, none⟩ = some (.int .i64 m) := keepc (hB1.trans ((hB18.mono hB1.size).trans (hBW.mono (by have := hB1.size; have := hB18.size; omega)))) hm
  by_cases hk16 : k < 16
  · have hdk : decide ((k : Int) < 16) = true := by simp; omega
    have hdl : (Lib.decDigits k).length ≤ 2 := by rw [digs k hk16]; split <;> simp
    have hadd : ¬ (9223372036854775807 < 1 + (Lib.decDigits k).length + 1) := by omega
    have hadd2 : ¬ (9223372036854775807 < f.text.length + 1) := by omega
    have eW : (⟨#[76]⟩ ++ ⟨(Lib.decDigits k).toArray⟩ : ByteArray) = ⟨(76 :: Lib.decDigits k).toArray⟩ := by
      rw [show (⟨#[76]⟩ : ByteArray) = ⟨[76].toArray⟩ from rfl, ByteArray.mk_append_mk]; simp
    have eS : (⟨f.text.toArray⟩ ++ ⟨#[41]⟩ : ByteArray).data.toList = f.text ++ [41] := by
      rw [show (⟨#[41]⟩ : ByteArray) = ⟨[41].toArray⟩ from rfl, ByteArray.mk_append_mk]
    have eT : (⟨#[76]⟩ ++ ⟨(Lib.decDigits k).toArray⟩ ++ ⟨#[41]⟩ : ByteArray).data.toList = 76 :: (Lib.decDigits k ++ [41]) := by
      rw [eW, show (⟨#[41]⟩ : ByteArray) = ⟨[41].toArray⟩ from rfl, ByteArray.mk_append_mk]; simp
    have hcon : Lib.contains (⟨f.text.toArray⟩ ++ ⟨#[41]⟩ : ByteArray).data.toList (⟨#[76]⟩ ++ ⟨(Lib.decDigits k).toArray⟩ ++ ⟨#[41]⟩ : ByteArray).data.toList = standsIn f k := by rw [eS, eT]; rfl
    have hconH := hid hcon
    have eWH := hid eW
    clear hcon eS eT eW
    have hby : (⟨(behindOf (76 :: Lib.decDigits k) (f.text.length + 1) f.text).toArray⟩ : ByteArray).size < 4294967281 ∧ ∀ (j : Nat) b, (⟨(behindOf (76 :: Lib.decDigits k) (f.text.length + 1) f.text).toArray⟩ : ByteArray).data.toList[j]? = some b → b.toNat < 128 := by
      obtain ⟨h1, h2⟩ := behindOf_mem (76 :: Lib.decDigits k) (f.text.length + 1) f.text
      refine ⟨by show (behindOf (76 :: Lib.decDigits k) (f.text.length + 1) f.text).length < _; omega, fun j b hb => text_ascii f hok b (h1 b (List.mem_of_getElem? hb))⟩
    have hdue := due_le f k
    have hsW := hBW.size
    cases hs1 : standsIn f k
    · rw [hs1] at hconH
      cases hs2 : standsBy f k
      · go_wp2_with (first
          | (go_at_call 13; refine (digits_any k hk16 _).mono ?_; rintro e w9 ⟨rfl, rfl⟩)
          | (go_at_call 12; refine (Tryz.strings_Contains _ _ m _ (by simp [ByteArray.size]; omega) hmW).mono ?_; rintro e w9 ⟨he, rfl⟩; rw [hconH.out] at he; subst he)
          | (go_at_call 15; rw [eWH.out]; refine (behind_any f.text (76 :: Lib.decDigits k) (by omega) (by simp) (by simp; omega) _ m hmW).mono ?_; rintro e w9 ⟨rfl, rfl⟩)
          | (go_at_call 14; refine (Tryz.strings_ContainsAny_laid _ _ _ hby.1 (by decide) hby.2 signs_ascii).mono ?_; rintro e w10 ⟨he, hb10⟩; rw [show Lib.containsAny (⟨(behindOf (76 :: Lib.decDigits k) (f.text.length + 1) f.text).toArray⟩ : ByteArray).data.toList (⟨#[38, 45, 94, 124]⟩ : ByteArray).data.toList = false from hs2] at he; subst he; have hrow10 := own_below hrow hb10; have hs10 := hb10.size))
        refine ⟨⟨k + 1, _, by omega, hBW.trans (hb10.mono hBW.size), by rw [due_succ, show stands f k = false from by simp [stands, hs1, hs2]]; simpa using hrow10, _, _, _, _, _, _, _, _, _, _, _, _, _, _, _, _, _, _, _, _, _, _, _, by rw [show ((k + 1 : Nat) : Int) = (k : Int) + 1 from rfl]⟩, ?_⟩
        simp [intOf]
        omega
      · go_wp2_with (first
          | (go_at_call 13; refine (digits_any k hk16 _).mono ?_; rintro e w9 ⟨rfl, rfl⟩)
          | (go_at_call 12; refine (Tryz.strings_Contains _ _ m _ (by simp [ByteArray.size]; omega) hmW).mono ?_; rintro e w9 ⟨he, rfl⟩; rw [hconH.out] at he; subst he)
          | (go_at_call 15; rw [eWH.out]; refine (behind_any f.text (76 :: Lib.decDigits k) (by omega) (by simp) (by simp; omega) _ m hmW).mono ?_; rintro e w9 ⟨rfl, rfl⟩)
          | (go_at_call 14; refine (Tryz.strings_ContainsAny_laid _ _ _ hby.1 (by decide) hby.2 signs_ascii).mono ?_; rintro e w10 ⟨he, hb10⟩; rw [show Lib.containsAny (⟨(behindOf (76 :: Lib.decDigits k) (f.text.length + 1) f.text).toArray⟩ : ByteArray).data.toList (⟨#[38, 45, 94, 124]⟩ : ByteArray).data.toList = true from hs2] at he; subst he; have hrow10 := own_below hrow hb10; have hs10 := hb10.size)
          | (at_builtin; refine wpList_append_own _ rfl _ _ 40 rfl w8.heap.size 3 i0 (.int .i64 0) 1 8 Tryz.underlying40 hi hz0 hz1 hz2 rfl (by decide) _ _ _ rfl (hrow10.alloc _) ⟨w10.heap.size, 0, none⟩ 1 1 [.int .i64 k] rfl rfl (cell_one_new _ _ _) (fun x hx => by simp at hx; subst hx; rfl) (by unfold maxLen; omega) (by omega) (by simp; omega) ?_; intro v' w11 hown' hgrow3 hnil3))
        refine ⟨⟨k + 1, v', by omega, ((hBW.trans (hb10.mono hBW.size)).alloc (by omega) _).grown hgrow3 (by simp; omega) (fun q hq => own_ge hrow10 q hq), by rw [due_succ, show stands f k = true from by simp [stands, hs1, hs2]]; simpa using hown', _, _, _, _, _, _, _, _, _, _, _, _, _, _, _, _, _, _, _, _, _, _, _, by rw [show ((k + 1 : Nat) : Int) = (k : Int) + 1 from rfl]⟩, ?_⟩
        simp [intOf]
        omega
    · rw [hs1] at hconH
      go_wp2_with (first
        | (go_at_call 13; refine (digits_any k hk16 _).mono ?_; rintro e w9 ⟨rfl, rfl⟩)
        | (go_at_call 12; refine (Tryz.strings_Contains _ _ m _ (by simp [ByteArray.size]; omega) hmW).mono ?_; rintro e w9 ⟨he, rfl⟩; rw [hconH.out] at he; subst he)
        | (at_builtin; refine wpList_append_own _ rfl _ _ 40 rfl w8.heap.size 3 i0 (.int .i64 0) 1 8 Tryz.underlying40 hi hz0 hz1 hz2 rfl (by decide) _ _ _ rfl (hrow.alloc _) ⟨_, 0, none⟩ 1 1 [.int .i64 k] rfl rfl (cell_one_new _ _ _) (fun x hx => by simp at hx; subst hx; rfl) (by unfold maxLen; omega) (by omega) (by simp; omega) ?_; intro v' w11 hown' hgrow3 hnil3))
      refine ⟨⟨k + 1, v', by omega, (hBW.alloc (by omega) _).grown hgrow3 (by simp; omega) (fun q hq => own_ge hrow q hq), by rw [due_succ, show stands f k = true from by simp [stands, hs1]]; simpa using hown', _, _, _, _, _, _, _, _, _, _, _, _, _, _, _, _, _, _, _, _, _, _, _, by rw [show ((k + 1 : Nat) : Int) = (k : Int) + 1 from rfl]⟩, ?_⟩
      simp [intOf]
      omega
  · have hdk : decide ((k : Int) < 16) = false := by simp; omega
    obtain rfl : k = 16 := by omega
    have hF9 : W.heap[w1.heap.size]? = _ := (hBW.block _ hl8).trans hF8H.out
    obtain ⟨p0, p1, p2, _, _, _⟩ := three_cells hF9
    have hl9 := lt_of_block hF9
    go_wp2_with fail
    have hBt : Below w1.heap.size w1 (W.alloc (.cells #[.int .i64 0] 3)) := (hB18.trans (hBW.mono (by omega))).alloc (by omega) _
    refine (Walk_any f hok (by omega) (by omega) _ _ _ (hvH.out.grew (B := w1.heap.size) hBt (Nat.le_refl _))).mono ?_
    rintro e w12 ⟨rfl, ⟨ua, un, uc, hbox, hru⟩, hb12⟩
    simp only [World.size_alloc] at hbox hru hb12
    have hM12 : w12.heap[W.heap.size]? = some (.cells #[.int .i64 0] 3 (0, 0)) := (hb12.block _ (by omega)).trans (heap_alloc_new W _)
    have hBM : Below W.heap.size W w12 := ((Below.refl _ _).alloc (Nat.le_refl _) _).trans (hb12.mono (Nat.le_succ _))
    have hsb := lt_of_block hbox
    have hboxH := hid hbox
    have hruH := hid hru
    have hM12H := hid hM12
    clear hbox hru hM12 hb12 p0 p1 p2
    go_wp2_with fail
    refine range_all rfl (fun args w => by rfl) f.all (fun x args V => ∃ u, args = #[u] ∧ Rep (fun k => W.heap.size + 2 ≤ k ∧ TyFm w12 k) V x u) (fun x args V h => by obtain ⟨u, rfl, _⟩ := h; rfl)
      (Cnt W.heap.size W) IsFm (fun o h => by obtain ⟨c, m, rfl⟩ := h; rfl) (fun pre V V' h hg => h.step (by omega) hg) ?h0 ?hseq ?hround ?hdone
    case h0 =>
      exact ⟨(Below.heap_alloc _ _ _ (by simp; omega)).trans ((Below.heap_alloc _ _ _ (by omega)).trans hM12H.out), (hBM.alloc (by omega) _).alloc (by simp; omega) _⟩
    case hseq =>
      intro J V0 hbW hsW hJ hY h0
      exact Walk2_any f _ (fun k => W.heap.size + 2 ≤ k ∧ TyFm w12 k) f.all J V0 _ ua un uc rfl (fun k hk => hk.2.below hbW) ((hbW.block _ (by omega)).trans hboxH.out) (hruH.out.keep (fun k hk hk2 => hbW.block k hk2) (fun k hk _ => hk)) hJ
        (fun pre x post u V hT hu hj => hY pre x post #[u] V hT ⟨u, rfl, hu⟩ hj) h0
    case hround =>
      rintro pre x post args V hT ⟨u, rfl, hu⟩ ⟨hM, hBV⟩ hsz
      obtain ⟨xa, xn, xc, rfl⟩ := hu.agg
      have hMl := lt_of_block hM
      have hpre : pre.length ≤ 512 := by
        have h2 := congrArg List.length hT
        rw [all_length, List.length_append] at h2
        omega
      gi_wp2
      refine ⟨by (repeat (first | exact Below.refl _ _ | assumption | exact below_step (by assumption) (by assumption) | (refine Below.drew ?_) | (refine below_drewN ?_ _) | (refine Below.alloc ?_ (by first | omega | (simp; done) | (simp; omega)) _) | (refine Below.setCell ?_ (by first | omega | (simp; done) | (simp; omega)) _) | (refine Below.trans ?_ (Below.mono (by assumption) (by first | omega | (simp; done) | (simp; omega)))))), fun V2 hg2 hs2' => ?_⟩
      have hX2 : V2.heap[V.heap.size]? = some (.cells #[.int .i64 x.op, .int .i64 x.lay, .slice xa xn xc] 28 (0, 0)) := (hg2.block _ (by simp) (by simp; omega)).trans (heap_alloc_new _ _)
      have hM2 : Cnt W.heap.size W pre V2 := Cnt.step (L := w12.heap.size + 1) (by omega) ⟨(Below.heap_alloc _ _ _ hMl).trans hM, hBV.alloc (by omega) _⟩ hg2
      have hu2 : Rep (fun k => W.heap.size + 2 ≤ k ∧ TyFm w12 k) V2 x (.agg #[.int .i64 x.op, .int .i64 x.lay, .slice xa xn xc]) := hu.keep (fun k hk hk2 => (hg2.block k (by simp; omega) (by have := lt_ty hk.2; simp; omega)).trans (Below.heap_alloc _ _ _ hk2)) (fun k hk _ => hk)
      have hF2 : V2.heap[w1.heap.size]? = _ := (hM2.2.block _ hl9).trans hF9
      have hv2 : Rep (fun k => w.heap.size + 1 + 1 ≤ k) V2 f _ := hvH.out.grew (B := w1.heap.size) (((hB18.trans (hBW.mono (by omega))).trans (hM2.2.mono (by omega)))) (Nat.le_refl _)
      simp only [World.size_alloc] at hs2'
      have hs3' : V.heap.size < V2.heap.size := by omega
      have hsM2 := lt_of_block hM2.1
      have hsF2 := lt_of_block hF2
      obtain ⟨x0, x1, x2, _, _, _⟩ := three_cells hX2
      obtain ⟨p0, p1, p2, _, _, _⟩ := three_cells hF2
      have hMc : V2.cell? ⟨W.heap.size, 0, none⟩ = some (.int .i64 pre.length) := by simp [World.cell?, hM2.1]
      have hMf : V2.frozen? ⟨W.heap.size, 0, none⟩ = false := by simp [World.frozen?, hM2.1]
      have hM2H := hid hM2
      have hu2H := hid hu2
      have hv2H := hid hv2
      clear hX2 hM2 hu2 hF2 hv2 hs2' hg2 hM hBV hu
      cases pre with
      | nil =>
        obtain ⟨tl, htl⟩ := all_head f
        rw [htl, List.nil_append] at hT
        obtain ⟨rfl, _⟩ := List.cons.inj hT
        gi_wp2
        refine ⟨trivial, rfl, ?_⟩
        refine (CallsIn.inRound _ (callsIn_wide.2 (alike_any f _ _ _ _ _ hu2H.out hv2H.out))).mono ?_
        rintro e V3 ⟨rfl, hb3⟩
        have hMc3 := keepc hb3 hMc
        have hMf3 := keepf hb3 hMc hMf
        have hM3 := hM2H.out.below hb3
        have hk3 : KeepO Stays V2 V3 := KeepO.below hb3
        have hM3H := hid hM3
        have hk3H := hid hk3
        clear hMc hMf hb3 hM3 hk3 p0 p1 p2 x0 x1 x2
        gi_wp2
        obtain ⟨ha1, ha2⟩ := hM3H.out.add f
        exact ⟨by simpa using ha1, hk3H.out.trans (by simpa using ha2)⟩
      | cons p0' ps =>
        have hne : (((p0' :: ps).length : Int) == 0) = false := by simp; omega
        have hps : ps.length ≤ 511 := by simpa using hpre
        gi_wp2
        refine ⟨trivial, ?_⟩
        gi_wp2
        obtain ⟨ha1, ha2⟩ := hM2H.out.add x
        exact ⟨by simpa using ha1, show KeepO Stays _ _ by simpa using ha2⟩
    case hdone =>
      rintro V ⟨hM, hBV⟩ hD
      have hDue := due_law f hok
      have hul9 := own_below (hul8H.out) (hBW.trans (hBV.mono hBW.size))
      have hvd9 := own_below hrow hBV
      rw [hDue] at hul9
      have hpos : 0 < (dueUpTo f 16).length := due_pos f hok
      have hdl := due_le f 16
      obtain ⟨g1, k1, rfl, _, hr1⟩ := row_vals (Value.int .i64) rfl rfl hpos hul9
      obtain ⟨g2, k2, rfl, _, hr2⟩ := row_vals (Value.int .i64) rfl rfl hpos hvd9
      have hBa : Below w1.heap.size w1 V := (hB18.trans (hBW.mono (by omega))).trans (hBV.mono (by have := hBW.size; omega))
      have hE9 : V.heap[w.heap.size + 1]? = _ := (hBa.block _ (by omega)).trans hE1H.out
      have hF9' : V.heap[w1.heap.size]? = _ := (hBV.block _ hl9).trans hF9
      rw [all_length] at hM
      obtain ⟨n1, hn1⟩ : ∃ n1, f.text.count 76 = n1 := ⟨_, rfl⟩
      obtain ⟨n2, hn2⟩ : ∃ n2, f.text.count 33 = n2 := ⟨_, rfl⟩
      obtain ⟨n3, hn3⟩ : ∃ n3, f.text.count 40 = n3 := ⟨_, rfl⟩
      have hsum := parts_law f hok
      rw [hn1, hn2, hn3] at hsum
      have K1 := count_any f 76 n1 hn1
      have K2 := count_any f 33 n2 hn2
      have K3 := count_any f 40 n3 hn3
      have KE := fun q => equal_rows (dueUpTo f 16) g1 k1 g2 k2 (V.drewN q) (by omega) hr1 hr2
      have hMc : V.cell? ⟨W.heap.size, 0, none⟩ = some (.int .i64 f.parts) := by simp [World.cell?, hM]
      have hnb : ((f.parts : Int) != (n1 : Int) + n2 + n3) = false := by simp; omega
      have hb1 : n1 ≤ 64 := by omega
      have hb2 : n2 ≤ 64 := by omega
      have hb3 : n3 ≤ 64 := by omega
      have hE9H := hid hE9
      have hF9H := hid hF9'
      have hDH := hid hD
      have hMH := hid hM
      have hBaH := hid hBa
      have K1H := hid K1
      have K2H := hid K2
      have K3H := hid K3
      have KEH := hid KE
      clear hE9 hF9' hD hM hBa K1 K2 K3 KE hsum hn1 hn2 hn3 hr1 hr2 hul9 hvd9 hDue hrow hF9 hBV hBW p0 p1 p2
      go_wp2_with fail
      go_quiet (first
        | (go_at_call 17; exact Calls.quiet_of (KEH.out _))
        | (with_reducible exact Calls.quiet_of_same (K1H.out _))
        | (with_reducible exact Calls.quiet_of_same (K2H.out _))
        | (with_reducible exact Calls.quiet_of_same (K3H.out _)))
      obtain ⟨j0, hj, hj0, hj1, hj2⟩ := info_parts infoU16
      have hwV := (hB1.trans (hBaH.out.mono hB1.size))
      have hsV := hwV.size
      have hszD : (V.drewN nq).heap.size = V.heap.size := rfl
      rcases hmvH.out with ⟨rfl, rfl⟩ | ⟨ma, mc, rfl, hmc⟩
      · go_wp2_with (at_builtin; refine wpList_append_own_none rfl _ _ 23 rfl V.heap.size 44 j0 1 Tryz.underlying23 hj _ 5 _ rfl (lit_row (V.drewN nq)) rfl ?_)
        obtain ⟨g, cap, hgc, hgB, hrow⟩ := row_vals (Value.int .u16) (zs := [0, 1, 2, 3, 65535] ++ []) rfl rfl (by simp) (lit_row (V.drewN nq))
        have hBA : Below V.heap.size V ((V.drewN nq).alloc (.cells #[.int .u16 0, .int .u16 1, .int .u16 2, .int .u16 3, .int .u16 65535] 44)) := (below_drewN (Below.refl _ _) nq).alloc (Nat.le_refl _) _
        simp only [Value.slice.injEq, Option.some.injEq, Addr.mk.injEq, hszD] at hgc
        obtain ⟨⟨rfl, _, _⟩, _, rfl⟩ := hgc
        obtain ⟨wA, hwA⟩ : ∃ wA, (V.drewN nq).alloc (.cells #[.int .u16 0, .int .u16 1, .int .u16 2, .int .u16 3, .int .u16 65535] 44) = wA := ⟨_, rfl⟩
        rw [hwA] at hrow hBA ⊢
        clear hwA
        have hZ := masks_in [] (fun x hx => by cases hx)
        obtain ⟨Z, hZe⟩ : ∃ Z : List Int, [0, 1, 2, 3, 65535] ++ [] = Z := ⟨_, rfl⟩
        have hZl : Z.length = 5 := by rw [← hZe]; rfl
        rw [hZe] at hrow hZ
        clear hZe

        have hlA := hBA.size
        have hrowH := hid hrow
        have hBAH := hid hBA
        have hZlH := hid hZl
        have hZn : Z.length ≤ 25 := by omega
        clear hrow hBA hwV hZl
        go_loopw [142] (fun i Wr => ∃ k : Nat, k ≤ Z.length ∧ i = .int .i64 k ∧ Below wA.heap.size wA Wr) (fun i _ => Z.length + 1 - intOf i)
        case atStart => exact ⟨0, Nat.zero_le _, rfl, Below.refl _ _⟩
        case round =>
          obtain ⟨k, hk, rfl, hBr⟩ := hrel
          have hBwr : Below V.heap.size V wr := hBAH.out.trans (hBr.mono hlA)
          have hFr := (hBwr.block _ (lt_of_block hF9H.out)).trans hF9H.out
          have hBx : Below w1.heap.size w1 wr := hBaH.out.trans (hBwr.mono hBaH.out.size)
          have hlr := hBx.size
          by_cases hlt : k < Z.length
          · have hlt2 := hlt
            rw [hZlH.out] at hlt2
            obtain ⟨hz0, hz1⟩ := hZ k
            have hzc := keepc hBr (hrowH.out k hlt)
            rw [Nat.zero_add] at hzc
            generalize Z.getD k 0 = z at hz0 hz1 hzc
            obtain ⟨p0, p1, p2, _, _, _⟩ := three_cells hFr
            have hBrH := hid hBr
            have hBxH := hid hBx
            clear hFr hBwr hBr hBx
            go_wp2_with fail
            refine (Holds_any z hz0 hz1 f hok (by omega) (by omega) _ _ _ (hvH.out.grew (B := w1.heap.size) hBxH.out (Nat.le_refl _))).mono ?_
            rintro e wh ⟨rfl, hbh⟩
            have hbhH := hid hbh
            clear hbh p0 p1 p2 hzc
            go_wp2_with fail
            refine (is_any z hz0 hz1 f hok _ _ _ (hcH.out.grew (B := w1.heap.size) (hBxH.out.trans (hbhH.out.mono hlr)) (Nat.le_refl _))).mono ?_
            rintro e wi ⟨rfl, hbi⟩
            have hbiH := hid hbi
            clear hbi
            go_wp2_with fail
            exact ⟨⟨k + 1, by omega, by go_num, below_step (below_step hBrH.out hbhH.out) hbiH.out⟩, by simp [intOf]; omega⟩
          · have hge2 : k = Z.length := by omega
            rw [hZlH.out] at hge2
            subst hge2
            have hEr := (hBwr.block _ (lt_of_block hE9H.out)).trans hE9H.out
            have hDr := (hBwr.block _ (lt_of_block hDH.out)).trans hDH.out
            have hec : wr.cell? ⟨w.heap.size + 1, 0, none⟩ = some (.bool false) := by simp [World.cell?, hEr]
            have hef : wr.frozen? ⟨w.heap.size + 1, 0, none⟩ = false := by simp [World.frozen?, hEr]
            have hErH := hid hEr
            have hDrH := hid hDr
            have hBxH := hid hBx
            clear hEr hDr hBr hBwr hFr hBx
            go_wp2_with fail
            have hK : (wr.setCell ⟨w.heap.size + 1, 0, none⟩ (.bool true)).heap[w12.heap.size]? = some (.deferred (some [])) := (Below.heap_setCell _ _ _ _ (by dsimp only; omega)).trans hDrH.out
            refine ⟨by simp, .inl ⟨_, _, rfl, run_takeDeferred hK, ?_⟩⟩
            have hS : (wr.setCell ⟨w.heap.size + 1, 0, none⟩ (.bool true)).heap[w.heap.size + 1]? = some (.cells #[.bool true] 4 (0, 0)) := one_setCell hErH.out
            have hS2 : ((wr.setCell ⟨w.heap.size + 1, 0, none⟩ (.bool true)).putObj w12.heap.size (.deferred none)).heap[w.heap.size + 1]? = some (.cells #[.bool true] 4 (0, 0)) := (World.putObj_heap_other (by omega)).trans hS
            have hS3 : ((wr.setCell ⟨w.heap.size + 1, 0, none⟩ (.bool true)).putObj w12.heap.size (.deferred none)).cell? ⟨w.heap.size + 1, 0, none⟩ = some (.bool true) := by simp [World.cell?, hS2]
            have hBw := hB1.trans (hBxH.out.mono hB1.size)
            have hS4 : Below w.heap.size w ((wr.setCell ⟨w.heap.size + 1, 0, none⟩ (.bool true)).putObj w12.heap.size (.deferred none)) := (hBw.setCell (p := ⟨w.heap.size + 1, 0, none⟩) (Nat.le_succ _) _).grown (grown_put _ _ _) (by simp; omega) (fun q hq => by cases hq; omega)
            refine ⟨.bool true, ?_, rfl, hS4⟩
            generalize (wr.setCell ⟨w.heap.size + 1, 0, none⟩ (.bool true)).putObj w12.heap.size (.deferred none) = W9 at *
            simp [results, Tryz.results4, go_sem, hS3]
      · have hnews : ∀ j u, (ms.map (Value.int .u16))[j]? = some u → ((V.drewN nq).alloc (.cells #[.int .u16 0, .int .u16 1, .int .u16 2, .int .u16 3, .int .u16 65535] 44)).cell? (ma.add j) = some u := by
          intro j u hu
          rw [List.getElem?_map] at hu
          obtain ⟨x, hx, rfl⟩ := Option.map_eq_some_iff.1 hu
          have hc0 := keepc hwV (hmc j x hx).1
          exact keepc ((below_drewN (Below.refl _ _) nq).alloc (Nat.le_refl _) _) hc0
        have hnewsH := hid hnews
        clear hnews
        go_wp2_with (at_builtin; refine wpList_append_own _ rfl _ _ 23 rfl V.heap.size 44 j0 (.int .u16 0) 1 2 Tryz.underlying23 hj hj0 hj1 hj2 rfl (by decide) _ 5 _ rfl (lit_row (V.drewN nq)) ma ms.length mc (ms.map (Value.int .u16)) rfl (by simp) hnewsH.out (fun x hx => by obtain ⟨y, _, rfl⟩ := List.mem_map.1 hx; rfl) (by unfold maxLen; omega) (by omega) (by simp) ?_; intro v' wA hownA hgrowA hnilA; obtain ⟨g, cap, rfl, hgB, hrow⟩ := row_vals (Value.int .u16) (zs := [0, 1, 2, 3, 65535] ++ ms) (by simp) (by simp; omega) (by simp) hownA; have hBA : Below V.heap.size V wA := ((below_drewN (Below.refl _ _) nq).alloc (Nat.le_refl _) _).grown hgrowA (by simp) (fun q hq => by cases hq; exact Nat.le_refl _); clear hownA hgrowA hnilA)
        have hZ := masks_in ms (fun x hx => by obtain ⟨i, hi, e⟩ := List.getElem_of_mem hx; exact (hmc i x (by rw [List.getElem?_eq_getElem hi, e])).2)
        obtain ⟨Z, hZe⟩ : ∃ Z : List Int, [0, 1, 2, 3, 65535] ++ ms = Z := ⟨_, rfl⟩
        have hZl : Z.length = 5 + ms.length := by rw [← hZe]; simp; omega
        rw [hZe] at hrow hZ
        clear hZe hnewsH hmc

        have hlA := hBA.size
        have hrowH := hid hrow
        have hBAH := hid hBA
        have hZlH := hid hZl
        have hZn : Z.length ≤ 25 := by omega
        clear hrow hBA hwV hZl
        go_loopw [142] (fun i Wr => ∃ k : Nat, k ≤ Z.length ∧ i = .int .i64 k ∧ Below wA.heap.size wA Wr) (fun i _ => Z.length + 1 - intOf i)
        case atStart => exact ⟨0, Nat.zero_le _, rfl, Below.refl _ _⟩
        case round =>
          obtain ⟨k, hk, rfl, hBr⟩ := hrel
          have hBwr : Below V.heap.size V wr := hBAH.out.trans (hBr.mono hlA)
          have hFr := (hBwr.block _ (lt_of_block hF9H.out)).trans hF9H.out
          have hBx : Below w1.heap.size w1 wr := hBaH.out.trans (hBwr.mono hBaH.out.size)
          have hlr := hBx.size
          by_cases hlt : k < Z.length
          · have hlt2 := hlt
            rw [hZlH.out] at hlt2
            obtain ⟨hz0, hz1⟩ := hZ k
            have hzc := keepc hBr (hrowH.out k hlt)
            rw [Nat.zero_add] at hzc
            generalize Z.getD k 0 = z at hz0 hz1 hzc
            obtain ⟨p0, p1, p2, _, _, _⟩ := three_cells hFr
            have hBrH := hid hBr
            have hBxH := hid hBx
            clear hFr hBwr hBr hBx
            go_wp2_with fail
            refine (Holds_any z hz0 hz1 f hok (by omega) (by omega) _ _ _ (hvH.out.grew (B := w1.heap.size) hBxH.out (Nat.le_refl _))).mono ?_
            rintro e wh ⟨rfl, hbh⟩
            have hbhH := hid hbh
            clear hbh p0 p1 p2 hzc
            go_wp2_with fail
            refine (is_any z hz0 hz1 f hok _ _ _ (hcH.out.grew (B := w1.heap.size) (hBxH.out.trans (hbhH.out.mono hlr)) (Nat.le_refl _))).mono ?_
            rintro e wi ⟨rfl, hbi⟩
            have hbiH := hid hbi
            clear hbi
            go_wp2_with fail
            exact ⟨⟨k + 1, by omega, by go_num, below_step (below_step hBrH.out hbhH.out) hbiH.out⟩, by simp [intOf]; omega⟩
          · have hge2 : k = Z.length := by omega
            rw [hZlH.out] at hge2
            subst hge2
            have hEr := (hBwr.block _ (lt_of_block hE9H.out)).trans hE9H.out
            have hDr := (hBwr.block _ (lt_of_block hDH.out)).trans hDH.out
            have hec : wr.cell? ⟨w.heap.size + 1, 0, none⟩ = some (.bool false) := by simp [World.cell?, hEr]
            have hef : wr.frozen? ⟨w.heap.size + 1, 0, none⟩ = false := by simp [World.frozen?, hEr]
            have hErH := hid hEr
            have hDrH := hid hDr
            have hBxH := hid hBx
            clear hEr hDr hBr hBwr hFr hBx
            go_wp2_with fail
            have hK : (wr.setCell ⟨w.heap.size + 1, 0, none⟩ (.bool true)).heap[w12.heap.size]? = some (.deferred (some [])) := (Below.heap_setCell _ _ _ _ (by dsimp only; omega)).trans hDrH.out
            refine ⟨by simp, .inl ⟨_, _, rfl, run_takeDeferred hK, ?_⟩⟩
            have hS : (wr.setCell ⟨w.heap.size + 1, 0, none⟩ (.bool true)).heap[w.heap.size + 1]? = some (.cells #[.bool true] 4 (0, 0)) := one_setCell hErH.out
            have hS2 : ((wr.setCell ⟨w.heap.size + 1, 0, none⟩ (.bool true)).putObj w12.heap.size (.deferred none)).heap[w.heap.size + 1]? = some (.cells #[.bool true] 4 (0, 0)) := (World.putObj_heap_other (by omega)).trans hS
            have hS3 : ((wr.setCell ⟨w.heap.size + 1, 0, none⟩ (.bool true)).putObj w12.heap.size (.deferred none)).cell? ⟨w.heap.size + 1, 0, none⟩ = some (.bool true) := by simp [World.cell?, hS2]
            have hBw := hB1.trans (hBxH.out.mono hB1.size)
            have hS4 : Below w.heap.size w ((wr.setCell ⟨w.heap.size + 1, 0, none⟩ (.bool true)).putObj w12.heap.size (.deferred none)) := (hBw.setCell (p := ⟨w.heap.size + 1, 0, none⟩) (Nat.le_succ _) _).grown (grown_put _ _ _) (by simp; omega) (fun q hq => by cases hq; omega)
            refine ⟨.bool true, ?_, rfl, hS4⟩
            generalize (wr.setCell ⟨w.heap.size + 1, 0, none⟩ (.bool true)).putObj w12.heap.size (.deferred none) = W9 at *
            simp [results, Tryz.results4, go_sem, hS3]

end Go.Proofs.YtjijlkiilmbdnaaGreatDoor
