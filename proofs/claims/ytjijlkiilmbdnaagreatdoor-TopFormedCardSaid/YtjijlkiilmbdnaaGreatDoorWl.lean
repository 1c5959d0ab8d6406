/- Walk, and the function value that it hands back. -/
import Derived.Test.YtjijlkiilmbdnaaGreatDoorWk
import Derived.Test.YtjijlkiilmbdnaaGreatDoorOx
namespace Go.Proofs.YtjijlkiilmbdnaaGreatDoor
open Go Go.RowKit

theorem Walk_any (f : Fm) (hok : f.ok) (hd : f.depth ≤ 32) (hp : f.parts ≤ 512) (A : Nat → Prop) (w : World) (v : Value) (hr : Rep A w f v) :
    Calls Tryz.prog 16 #[v] w fun e w' => e = .returned (.func (.func 41) #[] #[.pointer (some ⟨w.heap.size, 0, none⟩)]) ∧
      (∃ a n c, w'.heap[w.heap.size]? = some (.cells #[.int .i64 f.op, .int .i64 f.lay, .slice a n c] 28 (0, 0)) ∧ Rep (fun k => w.heap.size + 1 ≤ k ∧ TyFm w' k) w' f (.agg #[.int .i64 f.op, .int .i64 f.lay, .slice a n c])) ∧ Below w.heap.size w w' := by
  obtain ⟨a, n, c, rfl⟩ := hr.agg
  have hr' := hid hr
  clear hr
  go_enter Tryz.func16, Tryz.ntmps16
  go_wp2_with fail
  refine (check_ok f hok hd hp A _ _ (hr'.out.grew (B := w.heap.size) (by (repeat (first | exact Below.refl _ _ | assumption | exact below_step (by assumption) (by assumption) | (refine Below.drew ?_) | (refine below_drewN ?_ _) | (refine Below.alloc ?_ (by first | omega | (simp; done) | (simp; omega)) _) | (refine Below.setCell ?_ (by first | omega | (simp; done) | (simp; omega)) _) | (refine Below.trans ?_ (Below.mono (by assumption) (by first | omega | (simp; done) | (simp; omega))))))) (Nat.le_refl _))).mono ?_
  rintro e w1 ⟨rfl, hb1⟩
  have hB1 : Below w.heap.size w w1 := by (repeat (first | exact Below.refl _ _ | assumption | exact below_step (by assumption) (by assumption) | (refine Below.drew ?_) | (refine below_drewN ?_ _) | (refine Below.alloc ?_ (by first | omega | (simp; done) | (simp; omega)) _) | (refine Below.setCell ?_ (by first | omega | (simp; done) | (simp; omega)) _) | (refine Below.trans ?_ (Below.mono (by assumption) (by first | omega | (simp; done) | (simp; omega))))))
  have E1 : w1.heap[w.heap.size]? = _ := (hb1.block _ (by simp)).trans (heap_alloc_new w _)
  obtain ⟨p0, p1, p2, pf0, pf1, pf2⟩ := three_cells E1
  have E1H := hid E1
  have hs1 := lt_of_block E1
  clear hb1 E1
  go_wp2_with fail
  refine (own_any f A _ _ (hr'.out.grew (B := w.heap.size) hB1 (Nat.le_refl _))).mono ?_
  rintro e w2 ⟨u, rfl, hru, hb2⟩
  obtain ⟨ua, un, uc, rfl⟩ := hru.agg
  have hruH := hid hru
  have E2 : w2.heap[w.heap.size]? = _ := (hb2.block _ hs1).trans E1H.out
  have hB2 := below_step hB1 hb2
  clear hru p0 p1 p2 pf0 pf1 pf2
  obtain ⟨p0, p1, p2, pf0, pf1, pf2⟩ := three_cells E2
  have E2H := hid E2
  have hb2H := hid hb2
  clear E2 hb2
  go_wp2_with fail
  go_ret
  have hG := set_three_grown w2 w.heap.size (.int .i64 f.op) (.int .i64 f.lay) (.slice ua un uc)
  refine ⟨rfl, ⟨ua, un, uc, ?_, ?_⟩, hB2.grown hG (by have := hB2.size; omega) (fun k hk => by cases hk; exact Nat.le_refl _)⟩
  · exact block_set_three (i := 0) (j := 1) (k := 2) _ _ _ E2H.out
  · exact hruH.out.keep (fun k hk hk2 => hG.block k hk2 (fun e => by cases e; omega)) (fun k hk _ => ⟨by omega, hk.2.step hG (.inl (by omega))⟩)

theorem Walk2_any (f : Fm) (l : Nat) (A : Nat → Prop) (T : List Fm) (J : List Fm → World → Prop) (W : World) (p : Nat) (a : Option Addr) (n c : Nat) (hT : T = f.all)
    (hA : ∀ k, A k → TyFm W k) (hp : W.heap[p]? = some (.cells #[.int .i64 f.op, .int .i64 f.lay, .slice a n c] 28 (0, 0))) (hr : Rep A W f (.agg #[.int .i64 f.op, .int .i64 f.lay, .slice a n c]))
    (hJ : ∀ pre V V', J pre V → Below V.heap.size V V' → J pre V') (hY : Round l A T J) (h0 : J [] W) :
    CallsIn Fence.wide 0 Tryz.prog 41 (#[.func (.yield l) #[] #[]] ++ #[.pointer (some ⟨p, 0, none⟩)]) W fun e V' => (∃ v, e = .returned v) ∧ J T V' := by
  refine callsIn_wide.2 ?_
  have K := walk_any f l A T J [] [] W _ (by simp [hT]) hA hr hJ hY h0
  obtain ⟨p0, p1, p2, pf0, pf1, pf2⟩ := three_cells hp
  have hT' := hid hT
  have K' := hid K
  clear hA hp hr hJ hY h0 hT K
  show Calls Tryz.prog 41 #[.func (.yield l) #[] #[], .pointer (some ⟨p, 0, none⟩)] W _
  go_enter Tryz.func41, Tryz.ntmps41
  go_wp2_with fail
  refine K'.out.mono ?_
  rintro e w1 ⟨rfl, hJ1, _⟩
  go_wp2_with fail
  go_end0
  exact ⟨⟨_, rfl⟩, by rw [hT'.out]; simpa using hJ1⟩

end Go.Proofs.YtjijlkiilmbdnaaGreatDoor
