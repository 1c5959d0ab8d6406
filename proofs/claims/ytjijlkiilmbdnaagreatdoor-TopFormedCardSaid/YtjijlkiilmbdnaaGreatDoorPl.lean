/- layer: the number of a layer is read. -/
import Derived.Test.YtjijlkiilmbdnaaGreatDoorLv
import Derived.Test.YtjijlkiilmbdnaaGreatDoorShelf
import Derived.BigQuiet
namespace Go.Proofs.YtjijlkiilmbdnaaGreatDoor
open Go Go.RowKit

/-- A number's value. -/
def intOf (v : Value) : Nat := match v with | .int _ k => (k + 1).toNat | _ => 0

theorem digs (k : Nat) (hk : k < 16) : Lib.decDigits k = if k < 10 then [UInt8.ofNat (48 + k)] else [49, UInt8.ofNat (38 + k)] := by
  rw [Lib.decDigits]
  by_cases h : k < 10
  · simp [h]
  · rw [dif_neg h, if_neg h, show k / 10 = 1 from by omega, Lib.decDigits, dif_pos (by omega), show 48 + k % 10 = 38 + k from by omega]
    rfl

theorem of_ne (a b : Nat) (ha : a < 256) (hb : b < 256) (h : a ≠ b) : UInt8.ofNat a ≠ UInt8.ofNat b := fun e => h (by
  have := congrArg UInt8.toNat e
  simp at this
  omega)

theorem digits_not (n k : Nat) (hk : k < 16) (hn : n < k) (t : List UInt8) (ht : ∀ c, t.head? = some c → ¬ (48 ≤ c ∧ c ≤ 57)) : Lib.hasPrefix (Lib.decDigits n ++ t) (Lib.decDigits k) = false := by
  rw [digs n (by omega), digs k hk]
  simp only [Lib.hasPrefix]
  by_cases h1 : k < 10
  · rw [if_pos h1, if_pos (by omega)]
    rw [List.cons_append, List.isPrefixOf_cons_cons, beq_eq_false_iff_ne.2 (of_ne (48 + k) (48 + n) (by omega) (by omega) (by omega)), Bool.false_and]
  · rw [if_neg h1]
    by_cases h2 : n < 10
    · rw [if_pos h2]
      cases t with
      | nil => simp [List.isPrefixOf]
      | cons c t =>
        have h3 := ht c rfl
        have : UInt8.ofNat (38 + k) ≠ c := fun e => h3 (by subst e; constructor <;> (rw [UInt8.le_iff_toNat_le]; simp; omega))
        rw [List.cons_append, List.nil_append, List.isPrefixOf_cons_cons, List.isPrefixOf_cons_cons, beq_eq_false_iff_ne.2 this, Bool.false_and, Bool.and_false]
    · rw [if_neg h2]
      rw [List.cons_append, List.cons_append, List.isPrefixOf_cons_cons, List.isPrefixOf_cons_cons, beq_eq_false_iff_ne.2 (of_ne (38 + k) (38 + n) (by omega) (by omega) (by omega)), Bool.false_and, Bool.and_false]

theorem digits_is (n : Nat) (t : List UInt8) : Lib.hasPrefix (Lib.decDigits n ++ t) (Lib.decDigits n) = true ∧ Lib.trimPrefix (Lib.decDigits n ++ t) (Lib.decDigits n) = t := by
  have h : Lib.hasPrefix (Lib.decDigits n ++ t) (Lib.decDigits n) = true := by simp [Lib.hasPrefix]
  exact ⟨h, by simp [Lib.trimPrefix, h]⟩

theorem res_three {w : World} {b t : Nat} {x y z : Value} {m : Nat × Nat} (x' y' z' : Value) (h : w.heap[b]? = some (.cells #[x, y, z] t m)) :
    (((w.setCell ⟨b, 0, none⟩ x').setCell ⟨b, 1, none⟩ y').setCell ⟨b, 2, none⟩ z').heap[b]? = some (.cells #[x', y', z'] t m) := block_set_three x' y' z' h

theorem grown_drewN {v u : World} {q : Option Nat} (h : v.grownBy u q) (n : Nat) : v.grownBy (u.drewN n) q := ⟨h.os, h.tape, h.output, h.size, h.block⟩

/-- What is written behind the old world does not count. -/
theorem grown_past {w v u : World} {q : Option Nat} (h : w.grownBy v q) (k : v.grownBy u (some w.heap.size)) : w.grownBy u q :=
  ⟨k.os.trans h.os, k.tape.trans h.tape, k.output.trans h.output, Nat.le_trans h.size k.size, fun i hi hne => (k.block i (Nat.lt_of_lt_of_le hi h.size) (fun e => by cases e; omega)).trans (h.block i hi hne)⟩

set_option maxRecDepth 100000 in
theorem layer_any (n : Nat) (hn : n < 16) (t : List UInt8) (ht : ∀ c, t.head? = some c → ¬ (48 ≤ c ∧ c ≤ 57)) (w : World) (R o : Nat) (h : Rdr w R ((Fm.layer n).text ++ t) o) :
    Calls Tryz.prog 64 #[.pointer (some ⟨R, 0, none⟩)] w fun e w' => e = .returned (.agg #[.int .i64 1, .int .i64 n, .slice none 0 0]) ∧ Rdr w' R t o ∧ w.grownBy w' (some R) := by
  have e0 : (Fm.layer n).text ++ t = 76 :: (Lib.decDigits n ++ t) := by simp [Fm.text]
  rw [e0] at h
  have hl := h.lt
  have hH := hid h
  clear h
  go_enter Tryz.func64, Tryz.ntmps64
  go_wp2_with (go_at_call 51; refine (skip_any _ R o 76 _ (Rdr.below hH.out (by (repeat (first | exact Below.refl _ _ | assumption | exact below_step (by assumption) (by assumption) | (refine Below.drew ?_) | (refine below_drewN ?_ _) | (refine Below.alloc ?_ (by first | omega | (simp; done) | (simp; omega)) _) | (refine Below.setCell ?_ (by first | omega | (simp; done) | (simp; omega)) _) | (refine Below.trans ?_ (Below.mono (by assumption) (by first | omega | (simp; done) | (simp; omega))))))))).mono ?_; rintro e w1 ⟨rfl, rfl⟩)
  have hR0 : Rdr ((w.setCell ⟨R, 0, none⟩ (.string ⟨(Lib.decDigits n ++ t).toArray⟩)).alloc (.cells #[.int .i64 0, .int .i64 0, .slice none 0 0] 28)) R (Lib.decDigits n ++ t) o := ((hH.out.set _).below (by (repeat (first | exact Below.refl _ _ | assumption | exact below_step (by assumption) (by assumption) | (refine Below.drew ?_) | (refine below_drewN ?_ _) | (refine Below.alloc ?_ (by first | omega | (simp; done) | (simp; omega)) _) | (refine Below.setCell ?_ (by first | omega | (simp; done) | (simp; omega)) _) | (refine Below.trans ?_ (Below.mono (by assumption) (by first | omega | (simp; done) | (simp; omega))))))))
  have hG0 : w.grownBy ((w.setCell ⟨R, 0, none⟩ (.string ⟨(Lib.decDigits n ++ t).toArray⟩)).alloc (.cells #[.int .i64 0, .int .i64 0, .slice none 0 0] 28)) (some R) := grown_same (set_grown _ _ _) (World.grownBy_alloc _ _ _)
  have hX0 : ((w.setCell ⟨R, 0, none⟩ (.string ⟨(Lib.decDigits n ++ t).toArray⟩)).alloc (.cells #[.int .i64 0, .int .i64 0, .slice none 0 0] 28)).heap[w.heap.size]? = some (.cells #[.int .i64 0, .int .i64 0, .slice none 0 0] 28 (0, 0)) := by
    have := heap_alloc_new (w.setCell ⟨R, 0, none⟩ (.string ⟨(Lib.decDigits n ++ t).toArray⟩)) (.cells #[.int .i64 0, .int .i64 0, .slice none 0 0] 28)
    simpa using this
  clear hH e0
  refine wp_loop (fun a W => ∃ (k : Nat), n ≤ k ∧ k ≤ 15 ∧ ∃ x4 x5 x10 x11 x12 x13 x14 x15 x16 x17 x18 x19 x20 x21 x22 x23 x24 x25 : Value, a = { tmps := #[.pointer (some ⟨R, 0, none⟩), undef, .pointer (some ⟨w.heap.size, 0, none⟩), .int .i64 k, x4, x5, .pointer (some ⟨R, 0, none⟩), .pointer (some ⟨R, 0, none⟩), .pointer (some ⟨R, 0, none⟩), .tuple #[], x10, x11, x12, x13, x14, x15, x16, x17, x18, x19, x20, x21, x22, x23, x24, x25, undef, undef, undef, undef, undef, undef, undef, undef], defers := [] } ∧ Rdr W R (Lib.decDigits n ++ t) o ∧ w.grownBy W (some R) ∧ W.heap[w.heap.size]? = some (.cells #[.int .i64 0, .int .i64 0, .slice none 0 0] 28 (0, 0))) (fun a _ => intOf (a.tmps.getD 3 undef)) ⟨15, by omega, by omega, _, _, _, _, _, _, _, _, _, _, _, _, _, _, _, _, _, _, rfl, hR0, hG0, hX0⟩ ?_
  rintro a W ⟨k, hk1, hk2, x4, x5, x10, x11, x12, x13, x14, x15, x16, x17, x18, x19, x20, x21, x22, x23, x24, x25, rfl, hR0, hG0, hX0⟩
  have hs0 := hG0.size
  have hx0 := lt_of_block hX0
  have r0 := hR0.str
  have rf0 := hR0.fr0
  obtain ⟨p0, p1, p2, pf0, pf1, pf2⟩ := three_cells hX0
  have hR0H := hid hR0
  have hG0H := hid hG0
  have hX0H := hid hX0
  clear hR0 hG0 hX0
  by_cases hkn : k = n
  · subst hkn
    obtain ⟨d1, d2⟩ := digits_is k t
    go_wp2_with fail
    go_quiet (first | (go_at_call 37; exact Calls.quiet_of_same (Tryz.strconv_Itoa_small k (by omega) _)) | (go_at_call 84; exact Calls.quiet_of_same (Tryz.strings_CutPrefix _ _ _)))
    go_wp2_with fail
    have hG1 : w.grownBy W (some R) := hG0H.out
    have hRd : Rdr ((W.drewN nq).setCell ⟨R, 0, none⟩ (.string ⟨t.toArray⟩)) R t o := Rdr.set (w := W.drewN nq) t hR0H.out
    have hZ : ((W.drewN nq).setCell ⟨R, 0, none⟩ (.string ⟨t.toArray⟩)).heap[w.heap.size]? = some (.cells #[.int .i64 0, .int .i64 0, .slice none 0 0] 28 (0, 0)) := (Below.heap_setCell _ _ _ _ (by dsimp only; omega)).trans hX0H.out
    have hGd : w.grownBy ((W.drewN nq).setCell ⟨R, 0, none⟩ (.string ⟨t.toArray⟩)) (some R) := grown_same (u := W.drewN nq) (grown_drewN hG1 nq) (set_grown _ _ _)
    generalize (W.drewN nq).setCell ⟨R, 0, none⟩ (.string ⟨t.toArray⟩) = W2 at *
    have E := res_three (.int .i64 1) (.int .i64 k) (.slice none 0 0) hZ
    have hG2 := set_three_grown W2 w.heap.size (.int .i64 1) (.int .i64 k) (.slice none 0 0)
    generalize ((W2.setCell ⟨w.heap.size, 0, none⟩ (.int .i64 1)).setCell ⟨w.heap.size, 1, none⟩ (.int .i64 k)).setCell ⟨w.heap.size, 2, none⟩ (.slice none 0 0) = W3 at *
    obtain ⟨c0, c1, c2, _, _, _⟩ := three_cells E
    exact bodyPost_ret (v := .agg #[.int .i64 1, .int .i64 k, .slice none 0 0]) (by simp [results, Tryz.results64, go_sem, c0, c1, c2]) rfl ⟨rfl, (hG2.block _ hRd.lt (by simp; omega)).trans hRd, grown_past hGd hG2⟩
  · have d1 := digits_not n k (by omega) (by omega) t ht
    go_wp2_with fail
    go_quiet (first | (go_at_call 37; exact Calls.quiet_of_same (Tryz.strconv_Itoa_small k (by omega) _)) | (go_at_call 84; exact Calls.quiet_of_same (Tryz.strings_CutPrefix _ _ _)))
    go_wp2_with fail
    refine ⟨⟨k - 1, by omega, by omega, _, _, _, _, _, _, _, _, _, _, _, _, _, _, _, _, _, _, by rw [show ((k - 1 : Nat) : Int) = (k : Int) - 1 from by omega], hR0H.out, grown_drewN hG0H.out nq, hX0H.out⟩, ?_⟩
    simp [intOf]

end Go.Proofs.YtjijlkiilmbdnaaGreatDoor
