/- atom: a layer, not, what stands between brackets. -/
import Derived.Test.YtjijlkiilmbdnaaGreatDoorPv
namespace Go.Proofs.YtjijlkiilmbdnaaGreatDoor
open Go Go.RowKit

theorem lvs_new (w : World) : Lvs ((((w.alloc sgn3).alloc sgn2).alloc sgn1).alloc (.cells #[.map (some w.heap.size), .map (some (w.heap.size + 1)), .map (some (w.heap.size + 2))] 81)) (w.heap.size + 3) := by
  have h0 := heap_alloc_new w sgn3
  have h1 := heap_alloc_new (w.alloc sgn3) sgn2
  have h2 := heap_alloc_new ((w.alloc sgn3).alloc sgn2) sgn1
  have h3 := heap_alloc_new (((w.alloc sgn3).alloc sgn2).alloc sgn1) (.cells #[.map (some w.heap.size), .map (some (w.heap.size + 1)), .map (some (w.heap.size + 2))] 81)
  simp only [World.size_alloc] at h1 h2 h3
  refine ⟨w.heap.size, h3, ?_, ?_, ?_⟩
  · rw [Below.heap_alloc _ _ _ (by first | omega | (simp; done) | (simp; omega)), Below.heap_alloc _ _ _ (by first | omega | (simp; done) | (simp; omega)), Below.heap_alloc _ _ _ (by first | omega | (simp; done) | (simp; omega))]; exact h0
  · rw [Below.heap_alloc _ _ _ (by first | omega | (simp; done) | (simp; omega)), Below.heap_alloc _ _ _ (by first | omega | (simp; done) | (simp; omega))]; exact h1
  · rw [Below.heap_alloc _ _ _ (by simp)]; exact h2

theorem grown_of {w w' : World} (h : Below w.heap.size w w') (R : Nat) : w.grownBy w' (some R) := ⟨h.os, h.tape, h.output, h.size, fun k hk _ => h.block k hk⟩

theorem levels_said (w : World) : Calls Tryz.prog 32 #[] w fun e w' => ∃ LB, e = .returned (.slice (some ⟨LB, 0, none⟩) 3 3) ∧ Lvs w' LB ∧ Below w.heap.size w w' :=
  (levels_any w).mono (by
    rintro e w' ⟨rfl, rfl⟩
    exact ⟨_, rfl, lvs_new w, ((((Below.refl _ w).alloc (Nat.le_refl _) _).alloc (by first | omega | (simp; done) | (simp; omega)) _).alloc (by first | omega | (simp; done) | (simp; omega)) _).alloc (by first | omega | (simp; done) | (simp; omega)) _⟩)

set_option maxRecDepth 100000 in
theorem atom1_said {R o BX : Nat} {s t : List UInt8} {x : Fm} (ih : LvSaid 3 R o s x t) (w : World) (hbx : w.cell? ⟨BX, 0, none⟩ = some (.pointer (some ⟨R, 0, none⟩))) (hR : Rdr w R s o) :
    Calls Tryz.prog 66 #[.pointer (some ⟨BX, 0, none⟩)] w (ReadPost w R o x t) := by
  have hl := hR.lt
  have hlx := World.block_lt_of_cell? w _ hbx
  have hRH := hid hR
  clear hR
  go_enter Tryz.func66, Tryz.ntmps66
  go_wp2_with fail
  go_region_with (first
    | (go_at_call 32; refine Calls.mono (levels_said _) ?_; rintro e w1 ⟨LB, rfl, hL1, hb1⟩
       have hB1 : Below w.heap.size w w1 := by (repeat (first | exact Below.refl _ _ | assumption | exact below_step (by assumption) (by assumption) | (refine Below.drew ?_) | (refine below_drewN ?_ _) | (refine Below.alloc ?_ (by first | omega | (simp; done) | (simp; omega)) _) | (refine Below.setCell ?_ (by first | omega | (simp; done) | (simp; omega)) _) | (refine Below.trans ?_ (Below.mono (by assumption) (by first | omega | (simp; done) | (simp; omega))))))
       have hx1 := keepc hB1 hbx
       have hX1 : w1.heap[w.heap.size]? = _ := (hb1.block _ (by simp)).trans (heap_alloc_new w _)
       obtain ⟨p0, p1, p2, pf0, pf1, pf2⟩ := three_cells hX1
       have hs1 := lt_of_block hX1
       have hL1H := hid hL1
       have hX1H := hid hX1
       clear hL1 hb1 hX1)
    | (go_at_call 31; refine Calls.mono (ih _ _ _ hL1H.out (.inr ⟨by omega, rfl⟩) (hRH.out.below (by (repeat (first | exact Below.refl _ _ | assumption | exact below_step (by assumption) (by assumption) | (refine Below.drew ?_) | (refine below_drewN ?_ _) | (refine Below.alloc ?_ (by first | omega | (simp; done) | (simp; omega)) _) | (refine Below.setCell ?_ (by first | omega | (simp; done) | (simp; omega)) _) | (refine Below.trans ?_ (Below.mono (by assumption) (by first | omega | (simp; done) | (simp; omega))))))))) ?_
       rintro e w2 ⟨v, rfl, hv, hR2, hG2⟩
       obtain ⟨a, n, cc, rfl⟩ := hv.agg
       have hX2 := (hG2.block _ hs1 (by simp; omega)).trans hX1H.out
       clear p0 p1 p2 pf0 pf1 pf2
       obtain ⟨p0, p1, p2, pf0, pf1, pf2⟩ := three_cells hX2
       have hs2 := lt_of_block hX2
       have hvH := hid hv
       have hR2H := hid hR2
       have hG2H := hid hG2
       have hX2H := hid hX2
       clear hv hR2 hG2 hX2))
  all_goals
    go_wp2_with fail
    obtain ⟨E, hv5, hR5, hG5⟩ := fin_three hX2H.out (hvH.out.keep (B := fun k => w.heap.size + 1 ≤ k) (fun k hk _ => rfl) (fun k hk _ => by omega)) hR2H.out (grown_same (grown_of hB1 R) hG2H.out) hl
    obtain ⟨c0, c1, c2, _, _, _⟩ := three_cells E
    generalize ((w2.setCell ⟨w.heap.size, 0, none⟩ (.int .i64 x.op)).setCell ⟨w.heap.size, 1, none⟩ (.int .i64 x.lay)).setCell ⟨w.heap.size, 2, none⟩ (.slice a n cc) = w5 at *
    exact bodyPost_ret (v := .agg #[.int .i64 x.op, .int .i64 x.lay, .slice a n cc]) (by simp [results, Tryz.results66, go_sem, c0, c1, c2]) rfl ⟨_, rfl, hv5, hR5, hG5⟩

/-- The result's cells, wherever they lie. -/
theorem fin_at {w W : World} {R o P : Nat} {f : Fm} {t : List UInt8} {x y z x' y' z' : Value} (hP : w.heap.size ≤ P) (hX : W.heap[P]? = some (.cells #[x, y, z] 28 (0, 0))) (hv : Rep (fun k => w.heap.size ≤ k ∧ k ≠ P) W f (.agg #[x', y', z']))
    (hR : Rdr W R t o) (hG : w.grownBy W (some R)) (hl : R < w.heap.size) :
    let W3 := ((W.setCell ⟨P, 0, none⟩ x').setCell ⟨P, 1, none⟩ y').setCell ⟨P, 2, none⟩ z'
    W3.heap[P]? = some (.cells #[x', y', z'] 28 (0, 0)) ∧ Rep (fun k => w.heap.size ≤ k) W3 f (.agg #[x', y', z']) ∧ Rdr W3 R t o ∧ w.grownBy W3 (some R) := by
  have hS := set_three_grown W P x' y' z'
  exact ⟨res_three x' y' z' hX, hv.keep (fun k hk hk2 => hS.block k hk2 (by have := hk.2; simp; omega)) (fun k hk _ => hk.1), (hS.block _ hR.lt (by simp; omega)).trans hR, grown_behind hP hG hS⟩

/-- 'not' of what was read. -/
theorem not_said {w W : World} {R o P : Nat} {f : Fm} {t : List UInt8} {x y z : Value} {a : Option Addr} {n cc : Nat} (hP : w.heap.size ≤ P) (hX : W.heap[P]? = some (.cells #[x, y, z] 28 (0, 0))) (hv : Rep (fun k => w.heap.size ≤ k ∧ k ≠ P) W f (.agg #[.int .i64 f.op, .int .i64 f.lay, .slice a n cc]))
    (hR : Rdr W R t o) (hG : w.grownBy W (some R)) (hl : R < w.heap.size) :
    let V := (((W.setCell ⟨P, 0, none⟩ (.int .i64 2)).setCell ⟨P, 1, none⟩ (.int .i64 0)).setCell ⟨P, 2, none⟩ (.slice (some ⟨W.heap.size, 0, none⟩) 1 1)).alloc (.cells #[.int .i64 f.op, .int .i64 f.lay, .slice a n cc] 28)
    V.heap[P]? = some (.cells #[.int .i64 2, .int .i64 0, .slice (some ⟨W.heap.size, 0, none⟩) 1 1] 28 (0, 0)) ∧ Rep (fun k => w.heap.size ≤ k) V (.not f) (.agg #[.int .i64 2, .int .i64 0, .slice (some ⟨W.heap.size, 0, none⟩) 1 1]) ∧ Rdr V R t o ∧ w.grownBy V (some R) := by
  intro V
  have hS := set_three_grown W P (.int .i64 2) (.int .i64 0) (.slice (some ⟨W.heap.size, 0, none⟩) 1 1)
  have hE := res_three (.int .i64 2) (.int .i64 0) (.slice (some ⟨W.heap.size, 0, none⟩) 1 1) hX
  have h4 : ∀ k, k < W.heap.size → k ≠ P → V.heap[k]? = W.heap[k]? := fun k hk hne =>
    (Below.heap_alloc _ _ _ (Nat.lt_of_lt_of_le hk hS.size)).trans (hS.block k hk (by simp; exact hne))
  have hN : V.heap[W.heap.size]? = some (.cells #[.int .i64 f.op, .int .i64 f.lay, .slice a n cc] 28 (0, 0)) := by
    have := heap_alloc_new (((W.setCell ⟨P, 0, none⟩ (.int .i64 2)).setCell ⟨P, 1, none⟩ (.int .i64 0)).setCell ⟨P, 2, none⟩ (.slice (some ⟨W.heap.size, 0, none⟩) 1 1)) (.cells #[.int .i64 f.op, .int .i64 f.lay, .slice a n cc] 28)
    have hz : (((W.setCell ⟨P, 0, none⟩ (.int .i64 2)).setCell ⟨P, 1, none⟩ (.int .i64 0)).setCell ⟨P, 2, none⟩ (.slice (some ⟨W.heap.size, 0, none⟩) 1 1)).heap.size = W.heap.size := by simp
    rw [hz] at this
    exact this
  refine ⟨(Below.heap_alloc _ _ _ (lt_of_block hE)).trans hE, ?_, (h4 _ hR.lt (by omega)).trans hR, grown_same (grown_behind hP hG hS) (World.grownBy_alloc _ _ _)⟩
  refine ⟨W.heap.size, 0, 1, _, _, _, rfl, by omega, by omega, hG.size, ?_, ?_, ?_, hv.keep (fun k hk hk2 => h4 k hk2 hk.2) (fun k hk _ => hk.1)⟩ <;> simp [World.cell?, hN]

/-- What an atom's text begins with, and what may stand behind it. -/
def NoDig (t : List UInt8) : Prop := ∀ c, t.head? = some c → ¬ (48 ≤ c ∧ c ≤ 57)

set_option maxRecDepth 100000 in
theorem atom_layer {R o : Nat} {t : List UInt8} (n : Nat) (hn : n < 16) (ht : NoDig t) : AtSaid R o ((Fm.layer n).text ++ t) (.layer n) t := by
  intro w hR
  have hl := hR.lt
  have e0 : (Fm.layer n).text ++ t = 76 :: (Lib.decDigits n ++ t) := by simp [Fm.text]
  have hR' := hR
  rw [e0] at hR'
  have hRH := hid hR
  have hRH' := hid hR'
  clear hR hR' e0
  go_enter Tryz.func49, Tryz.ntmps49
  go_wp2_with (go_at_call 50; refine (first_cons _ R o 76 _ (hRH'.out.below (by (repeat (first | exact Below.refl _ _ | assumption | exact below_step (by assumption) (by assumption) | (refine Below.drew ?_) | (refine below_drewN ?_ _) | (refine Below.alloc ?_ (by first | omega | (simp; done) | (simp; omega)) _) | (refine Below.setCell ?_ (by first | omega | (simp; done) | (simp; omega)) _) | (refine Below.trans ?_ (Below.mono (by assumption) (by first | omega | (simp; done) | (simp; omega))))))))).mono ?_; rintro e w1 ⟨rfl, rfl⟩)
  have hX0 : ((w.alloc (.cells #[.pointer (some ⟨R, 0, none⟩)] 60)).alloc (.cells #[.int .i64 0, .int .i64 0, .slice none 0 0] 28)).heap[w.heap.size + 1]? = some (.cells #[.int .i64 0, .int .i64 0, .slice none 0 0] 28 (0, 0)) := by
    have := heap_alloc_new (w.alloc (.cells #[.pointer (some ⟨R, 0, none⟩)] 60)) (.cells #[.int .i64 0, .int .i64 0, .slice none 0 0] 28)
    rwa [World.size_alloc] at this
  have hB0 : Below w.heap.size w ((w.alloc (.cells #[.pointer (some ⟨R, 0, none⟩)] 60)).alloc (.cells #[.int .i64 0, .int .i64 0, .slice none 0 0] 28)) := by (repeat (first | exact Below.refl _ _ | assumption | exact below_step (by assumption) (by assumption) | (refine Below.drew ?_) | (refine below_drewN ?_ _) | (refine Below.alloc ?_ (by first | omega | (simp; done) | (simp; omega)) _) | (refine Below.setCell ?_ (by first | omega | (simp; done) | (simp; omega)) _) | (refine Below.trans ?_ (Below.mono (by assumption) (by first | omega | (simp; done) | (simp; omega))))))
  refine (layer_any n hn t ht _ R o (hRH.out.below (by (repeat (first | exact Below.refl _ _ | assumption | exact below_step (by assumption) (by assumption) | (refine Below.drew ?_) | (refine below_drewN ?_ _) | (refine Below.alloc ?_ (by first | omega | (simp; done) | (simp; omega)) _) | (refine Below.setCell ?_ (by first | omega | (simp; done) | (simp; omega)) _) | (refine Below.trans ?_ (Below.mono (by assumption) (by first | omega | (simp; done) | (simp; omega))))))))).mono ?_
  rintro e w1 ⟨rfl, hR1, hG1⟩
  have hX1 := (hG1.block _ (by simp) (by simp; omega)).trans hX0
  have hG1w := grown_same (grown_of hB0 R) hG1
  obtain ⟨p0, p1, p2, pf0, pf1, pf2⟩ := three_cells hX1
  have hs1 := lt_of_block hX1
  have hXH := hid hX1
  have hR1H := hid hR1
  have hGH := hid hG1w
  clear hX0 hB0 hG1 hX1 hR1 hG1w
  go_wp2_with fail
  obtain ⟨E, hv5, hR5, hG5⟩ := fin_at (f := .layer n) (Nat.le_succ _) hXH.out rfl hR1H.out hGH.out hl
  obtain ⟨c0, c1, c2, _, _, _⟩ := three_cells E
  generalize ((w1.setCell ⟨w.heap.size + 1, 0, none⟩ (.int .i64 1)).setCell ⟨w.heap.size + 1, 1, none⟩ (.int .i64 n)).setCell ⟨w.heap.size + 1, 2, none⟩ (.slice none 0 0) = w5 at *
  exact bodyPost_ret (v := .agg #[.int .i64 1, .int .i64 n, .slice none 0 0]) (by simp [results, Tryz.results49, go_sem, c0, c1, c2]) rfl ⟨_, rfl, hv5, hR5, hG5⟩

set_option maxRecDepth 100000 in
theorem atom_not {R o : Nat} {s t : List UInt8} {f : Fm} (ho : o < 32) (ih : AtSaid R (o + 1) s f t) : AtSaid R o (33 :: s) (.not f) t := by
  intro w hR
  have hl := hR.lt
  have hRH := hid hR
  clear hR
  go_enter Tryz.func49, Tryz.ntmps49
  go_wp2_with (go_at_call 50; refine (first_cons _ R o 33 _ (hRH.out.below (by (repeat (first | exact Below.refl _ _ | assumption | exact below_step (by assumption) (by assumption) | (refine Below.drew ?_) | (refine below_drewN ?_ _) | (refine Below.alloc ?_ (by first | omega | (simp; done) | (simp; omega)) _) | (refine Below.setCell ?_ (by first | omega | (simp; done) | (simp; omega)) _) | (refine Below.trans ?_ (Below.mono (by assumption) (by first | omega | (simp; done) | (simp; omega))))))))).mono ?_; rintro e w1 ⟨rfl, rfl⟩)
  have hX0 : ((w.alloc (.cells #[.pointer (some ⟨R, 0, none⟩)] 60)).alloc (.cells #[.int .i64 0, .int .i64 0, .slice none 0 0] 28)).heap[w.heap.size + 1]? = some (.cells #[.int .i64 0, .int .i64 0, .slice none 0 0] 28 (0, 0)) := by
    have := heap_alloc_new (w.alloc (.cells #[.pointer (some ⟨R, 0, none⟩)] 60)) (.cells #[.int .i64 0, .int .i64 0, .slice none 0 0] 28)
    rwa [World.size_alloc] at this
  have hB0 : Below w.heap.size w ((w.alloc (.cells #[.pointer (some ⟨R, 0, none⟩)] 60)).alloc (.cells #[.int .i64 0, .int .i64 0, .slice none 0 0] 28)) := by (repeat (first | exact Below.refl _ _ | assumption | exact below_step (by assumption) (by assumption) | (refine Below.drew ?_) | (refine below_drewN ?_ _) | (refine Below.alloc ?_ (by first | omega | (simp; done) | (simp; omega)) _) | (refine Below.setCell ?_ (by first | omega | (simp; done) | (simp; omega)) _) | (refine Below.trans ?_ (Below.mono (by assumption) (by first | omega | (simp; done) | (simp; omega))))))
  refine (within_meth f s t 33 _ R o ho (hRH.out.below (by (repeat (first | exact Below.refl _ _ | assumption | exact below_step (by assumption) (by assumption) | (refine Below.drew ?_) | (refine below_drewN ?_ _) | (refine Below.alloc ?_ (by first | omega | (simp; done) | (simp; omega)) _) | (refine Below.setCell ?_ (by first | omega | (simp; done) | (simp; omega)) _) | (refine Below.trans ?_ (Below.mono (by assumption) (by first | omega | (simp; done) | (simp; omega)))))))) (fun W _ _ hRW => ih W hRW)).mono ?_
  rintro e w1 ⟨v, rfl, hv, hR1, hG1⟩
  have hX1 := (hG1.block _ (by simp) (by simp; omega)).trans hX0
  have hG1w := grown_same (grown_of hB0 R) hG1
  obtain ⟨a, nn, cc, rfl⟩ := hv.agg
  have hv1 : Rep (fun k => w.heap.size ≤ k ∧ k ≠ w.heap.size + 1) w1 f (.agg #[.int .i64 f.op, .int .i64 f.lay, .slice a nn cc]) := hv.keep (fun k hk _ => rfl) (fun k hk _ => by simp at hk; omega)
  obtain ⟨p0, p1, p2, pf0, pf1, pf2⟩ := three_cells hX1
  have hs1 := lt_of_block hX1
  have hXH := hid hX1
  have hvH := hid hv1
  have hR1H := hid hR1
  have hGH := hid hG1w
  clear hX0 hB0 hG1 hX1 hR1 hG1w hv hv1
  go_wp2_with fail
  obtain ⟨E, hv5, hR5, hG5⟩ := not_said (Nat.le_succ _) hXH.out hvH.out hR1H.out hGH.out hl
  obtain ⟨c0, c1, c2, _, _, _⟩ := three_cells E
  generalize (((w1.setCell ⟨w.heap.size + 1, 0, none⟩ (.int .i64 2)).setCell ⟨w.heap.size + 1, 1, none⟩ (.int .i64 0)).setCell ⟨w.heap.size + 1, 2, none⟩ (.slice (some ⟨w1.heap.size, 0, none⟩) 1 1)).alloc (.cells #[.int .i64 f.op, .int .i64 f.lay, .slice a nn cc] 28) = w5 at *
  exact bodyPost_ret (v := .agg #[.int .i64 2, .int .i64 0, .slice (some ⟨w1.heap.size, 0, none⟩) 1 1]) (by simp [results, Tryz.results49, go_sem, c0, c1, c2]) rfl ⟨_, rfl, hv5, hR5, hG5⟩

set_option maxRecDepth 100000 in
theorem atom_round {R o : Nat} {s t : List UInt8} {f : Fm} (ho : o < 32) (ih : LvSaid 3 R (o + 1) s f (41 :: t)) : AtSaid R o (40 :: s) f t := by
  intro w hR
  have hl := hR.lt
  have hRH := hid hR
  clear hR
  go_enter Tryz.func49, Tryz.ntmps49
  go_wp2_with (go_at_call 50; refine (first_cons _ R o 40 _ (hRH.out.below (by (repeat (first | exact Below.refl _ _ | assumption | exact below_step (by assumption) (by assumption) | (refine Below.drew ?_) | (refine below_drewN ?_ _) | (refine Below.alloc ?_ (by first | omega | (simp; done) | (simp; omega)) _) | (refine Below.setCell ?_ (by first | omega | (simp; done) | (simp; omega)) _) | (refine Below.trans ?_ (Below.mono (by assumption) (by first | omega | (simp; done) | (simp; omega))))))))).mono ?_; rintro e w1 ⟨rfl, rfl⟩)
  have hX0 : ((w.alloc (.cells #[.pointer (some ⟨R, 0, none⟩)] 60)).alloc (.cells #[.int .i64 0, .int .i64 0, .slice none 0 0] 28)).heap[w.heap.size + 1]? = some (.cells #[.int .i64 0, .int .i64 0, .slice none 0 0] 28 (0, 0)) := by
    have := heap_alloc_new (w.alloc (.cells #[.pointer (some ⟨R, 0, none⟩)] 60)) (.cells #[.int .i64 0, .int .i64 0, .slice none 0 0] 28)
    rwa [World.size_alloc] at this
  have hB0 : Below w.heap.size w ((w.alloc (.cells #[.pointer (some ⟨R, 0, none⟩)] 60)).alloc (.cells #[.int .i64 0, .int .i64 0, .slice none 0 0] 28)) := by (repeat (first | exact Below.refl _ _ | assumption | exact below_step (by assumption) (by assumption) | (refine Below.drew ?_) | (refine below_drewN ?_ _) | (refine Below.alloc ?_ (by first | omega | (simp; done) | (simp; omega)) _) | (refine Below.setCell ?_ (by first | omega | (simp; done) | (simp; omega)) _) | (refine Below.trans ?_ (Below.mono (by assumption) (by first | omega | (simp; done) | (simp; omega))))))
  have hbx0 : ((w.alloc (.cells #[.pointer (some ⟨R, 0, none⟩)] 60)).alloc (.cells #[.int .i64 0, .int .i64 0, .slice none 0 0] 28)).cell? ⟨w.heap.size, 0, none⟩ = some (.pointer (some ⟨R, 0, none⟩)) := cell_past _ _ _ _ _ (cell_one_new _ _ _ 0 _ rfl)
  have hbw : ∀ W, ((w.alloc (.cells #[.pointer (some ⟨R, 0, none⟩)] 60)).alloc (.cells #[.int .i64 0, .int .i64 0, .slice none 0 0] 28)).grownBy W (some R) → W.cell? ⟨w.heap.size, 0, none⟩ = some (.pointer (some ⟨R, 0, none⟩)) := fun W hW =>
    hW.cell hbx0 (by simp; omega)
  refine (within_clo f s (41 :: t) 40 _ R o _ ho (hRH.out.below (by (repeat (first | exact Below.refl _ _ | assumption | exact below_step (by assumption) (by assumption) | (refine Below.drew ?_) | (refine below_drewN ?_ _) | (refine Below.alloc ?_ (by first | omega | (simp; done) | (simp; omega)) _) | (refine Below.setCell ?_ (by first | omega | (simp; done) | (simp; omega)) _) | (refine Below.trans ?_ (Below.mono (by assumption) (by first | omega | (simp; done) | (simp; omega)))))))) (fun W hW _ hRW => atom1_said ih W (hbw W hW) hRW)).mono ?_
  rintro e w1 ⟨v, rfl, hv, hR1, hG1⟩
  have hX1 := (hG1.block _ (by simp) (by simp; omega)).trans hX0
  have hG1w := grown_same (grown_of hB0 R) hG1
  obtain ⟨a, nn, cc, rfl⟩ := hv.agg
  have hv1 : Rep (fun k => w.heap.size ≤ k ∧ k ≠ w.heap.size + 1) w1 f (.agg #[.int .i64 f.op, .int .i64 f.lay, .slice a nn cc]) := hv.keep (fun k hk _ => rfl) (fun k hk _ => by simp at hk; omega)
  obtain ⟨p0, p1, p2, pf0, pf1, pf2⟩ := three_cells hX1
  have hs1 := lt_of_block hX1
  have hXH := hid hX1
  have hvH := hid hv1
  have hR1H := hid hR1
  have hGH := hid hG1w
  have hb1 := hbw _ hG1
  clear hX0 hB0 hG1 hX1 hR1 hG1w hv hv1 hbx0 hbw
  have hs1' : w.heap.size < w1.heap.size := by omega
  go_wp2_with (first
    | (go_at_call 50; refine (first_cons _ R o 41 t (hR1H.out.below (by (repeat (first | exact Below.refl _ _ | assumption | exact below_step (by assumption) (by assumption) | (refine Below.drew ?_) | (refine below_drewN ?_ _) | (refine Below.alloc ?_ (by first | omega | (simp; done) | (simp; omega)) _) | (refine Below.setCell ?_ (by first | omega | (simp; done) | (simp; omega)) _) | (refine Below.trans ?_ (Below.mono (by assumption) (by first | omega | (simp; done) | (simp; omega))))))))).mono ?_; rintro e w2 ⟨rfl, rfl⟩)
    | (go_at_call 30; refine (must_true _ _).mono ?_; rintro e w2 ⟨rfl, rfl⟩))
  have hXa : (w1.alloc (.cells #[.int .i64 f.op, .int .i64 f.lay, .slice a nn cc] 28)).heap[w.heap.size + 1]? = _ := (Below.heap_alloc _ _ _ hs1).trans hXH.out
  have hF := heap_alloc_new w1 (.cells #[.int .i64 f.op, .int .i64 f.lay, .slice a nn cc] 28)
  have hva : Rep (fun k => w.heap.size ≤ k ∧ k ≠ w.heap.size + 1) (w1.alloc (.cells #[.int .i64 f.op, .int .i64 f.lay, .slice a nn cc] 28)) f (.agg #[.int .i64 f.op, .int .i64 f.lay, .slice a nn cc]) := hvH.out.grew (B := w1.heap.size) ((Below.refl _ _).alloc (Nat.le_refl _) _) (Nat.le_refl _)
  have hGa := grown_same hGH.out (World.grownBy_alloc w1 (.cells #[.int .i64 f.op, .int .i64 f.lay, .slice a nn cc] 28) (some R))
  refine (skip_said _ R o 41 t (hR1H.out.below ((Below.refl _ _).alloc (Nat.le_refl _) _))).mono ?_
  rintro e w2 ⟨rfl, hR2, hG2⟩
  have hX2 := (hG2.block _ (by simp; omega) (by simp; omega)).trans hXa
  have hF2 := (hG2.block _ (by simp) (by simp; omega)).trans hF
  have hv2 : Rep (fun k => w.heap.size ≤ k ∧ k ≠ w.heap.size + 1) w2 f (.agg #[.int .i64 f.op, .int .i64 f.lay, .slice a nn cc]) := hva.keep (fun k hk hk2 => hG2.block k hk2 (by have := hk.1; simp; omega)) (fun k hk _ => hk)
  have hGw := grown_same hGa hG2
  have hs2 := lt_of_block hX2
  have hsF := lt_of_block hF2
  have hX2H := hid hX2
  have hv2H := hid hv2
  have hR2H := hid hR2
  have hG2H := hid hGw
  clear p0 p1 p2 pf0 pf1 pf2
  obtain ⟨p0, p1, p2, pf0, pf1, pf2⟩ := three_cells hX2
  obtain ⟨q0, q1, q2, qf0, qf1, qf2⟩ := three_cells hF2
  clear hXH hvH hR1H hGH hb1 hXa hF hva hGa hX2 hF2 hv2 hGw hR2 hG2
  go_wp2_with fail
  obtain ⟨E, hv5, hR5, hG5⟩ := fin_at (Nat.le_succ _) hX2H.out hv2H.out hR2H.out hG2H.out hl
  obtain ⟨c0, c1, c2, _, _, _⟩ := three_cells E
  generalize ((w2.setCell ⟨w.heap.size + 1, 0, none⟩ (.int .i64 f.op)).setCell ⟨w.heap.size + 1, 1, none⟩ (.int .i64 f.lay)).setCell ⟨w.heap.size + 1, 2, none⟩ (.slice a nn cc) = w5 at *
  exact bodyPost_ret (v := .agg #[.int .i64 f.op, .int .i64 f.lay, .slice a nn cc]) (by simp [results, Tryz.results49, go_sem, c0, c1, c2]) rfl ⟨_, rfl, hv5, hR5, hG5⟩

end Go.Proofs.YtjijlkiilmbdnaaGreatDoor
