/- level: what the signs of a level part. -/
import Derived.Test.YtjijlkiilmbdnaaGreatDoorPw
import Derived.Deep.RegionHeld3
namespace Go.Proofs.YtjijlkiilmbdnaaGreatDoor
open Go Go.RowKit

theorem first_cons (w : World) (R o : Nat) (c : UInt8) (s : List UInt8) (h : Rdr w R (c :: s) o) :
    Calls Tryz.prog 50 #[.pointer (some ⟨R, 0, none⟩)] w fun e w' => e = .returned (.int .u8 c.toNat) ∧ w' = w := first_any w R o (c :: s) h

/-- The levels' maps in memory. -/
def Lvs (w : World) (LB : Nat) : Prop := ∃ m, w.heap[LB]? = some (.cells #[.map (some m), .map (some (m + 1)), .map (some (m + 2))] 81 (0, 0)) ∧ w.heap[m]? = some sgn3 ∧ w.heap[m + 1]? = some sgn2 ∧ w.heap[m + 2]? = some sgn1

theorem Lvs.kept {w w' : World} {LB R : Nat} (h : Lvs w LB) (hg : w.grownBy w' (some R)) (hR : ∃ c t, w.heap[R]? = some (.cells c 64 t)) : Lvs w' LB := by
  obtain ⟨m, h0, h1, h2, h3⟩ := h
  obtain ⟨c, t, hR⟩ := hR
  have key : ∀ k o, w.heap[k]? = some o → o ≠ Obj.cells c 64 t → w'.heap[k]? = some o := fun k o hk ho => (hg.block k (lt_of_block hk) (fun e => by cases e; rw [hR] at hk; cases hk; exact ho rfl)).trans hk
  exact ⟨m, key _ _ h0 (by intro e; cases e), key _ _ h1 (by intro e; cases e), key _ _ h2 (by intro e; cases e), key _ _ h3 (by intro e; cases e)⟩

theorem Lvs.below {w w' : World} {LB : Nat} (h : Lvs w LB) (hb : Below w.heap.size w w') : Lvs w' LB := by
  obtain ⟨m, h0, h1, h2, h3⟩ := h
  have key : ∀ k o, w.heap[k]? = some o → w'.heap[k]? = some o := fun k o hk => (hb.block k (lt_of_block hk)).trans hk
  exact ⟨m, key _ _ h0, key _ _ h1, key _ _ h2, key _ _ h3⟩

/-- A look-up in a region that only reads. -/
theorem wpQuiet_lookup {P : Program} {ops : Array Oper} {w : World} {Q : Act → Prop} {rest : List Oper} {a : Act} {o : Oper} {t : Nat} {m x : Operand} (hg : o.guard = none) (hop : o.op = Op.lookup t m x true) (v : Value)
    (hr : ∀ q, (Instr.lookup t (a.eval m) (a.eval x) true).run P (w.drewN q) = .ok v (w.drewN q)) (h : wpQuiet P ops (fun w' => ∃ n, w' = w.drewN n) Q rest (a.put o.dst v)) :
    wpQuiet P ops (fun w' => ∃ n, w' = w.drewN n) Q (o :: rest) a := by
  show (if Region.wanted o (yielded ops a.tmps) then o.quiet P a _ _ else _)
  rw [if_pos (by simp [Region.wanted, hg])]
  refine ⟨v, ?_, h⟩
  rintro W ⟨q, rfl⟩
  simp [Oper.quietAt, execOp, hop, hr, Oper.quietUpon, Result.andThen]

theorem grown_behind {w v u : World} {q : Option Nat} {B : Nat} (hB : w.heap.size ≤ B) (h : w.grownBy v q) (k : v.grownBy u (some B)) : w.grownBy u q :=
  ⟨k.os.trans h.os, k.tape.trans h.tape, k.output.trans h.output, Nat.le_trans h.size k.size, fun i hi hne => (k.block i (Nat.lt_of_lt_of_le hi h.size) (fun e => by cases e; omega)).trans (h.block i hi hne)⟩

theorem Lvs.kept2 {w w' : World} {LB B : Nat} (h : Lvs w LB) (hg : w.grownBy w' (some B)) (hB : ∃ c t, w.heap[B]? = some (.cells c 28 t)) : Lvs w' LB := by
  obtain ⟨m, h0, h1, h2, h3⟩ := h
  obtain ⟨c, t, hB⟩ := hB
  have key : ∀ k o, w.heap[k]? = some o → o ≠ Obj.cells c 28 t → w'.heap[k]? = some o := fun k o hk ho => (hg.block k (lt_of_block hk) (fun e => by cases e; rw [hB] at hk; cases hk; exact ho rfl)).trans hk
  exact ⟨m, key _ _ h0 (by intro e; cases e), key _ _ h1 (by intro e; cases e), key _ _ h2 (by intro e; cases e), key _ _ h3 (by intro e; cases e)⟩

/-- What the region that joins two comes to. -/
theorem join_said {w w3 w4 : World} {R o LB B op : Nat} {x y : Fm} {s2 t : List UInt8} {a ua : Option Addr} {n cc un uc : Nat} (hl : R < w.heap.size) (hB : w.heap.size < B)
    (hX3 : w3.heap[w.heap.size]? = some (.cells #[.int .i64 0, .int .i64 0, .slice none 0 0] 28 (0, 0))) (hQ3 : w3.heap[B]? = some (.cells #[.int .i64 x.op, .int .i64 x.lay, .slice a n cc] 28 (0, 0)))
    (hL3 : Lvs w3 LB) (hG3 : w.grownBy w3 (some R)) (hv3 : Rep (fun k => w.heap.size + 1 ≤ k ∧ k ≠ B) w3 x (.agg #[.int .i64 x.op, .int .i64 x.lay, .slice a n cc])) (hR3 : Rdr w3 R s2 o)
    (hru : Rep (fun k => w3.drew.heap.size ≤ k) w4 y (.agg #[.int .i64 y.op, .int .i64 y.lay, .slice ua un uc])) (hR4 : Rdr w4 R t o) (hG4 : w3.drew.grownBy w4 (some R)) :
    let V := (((w4.setCell ⟨B, 0, none⟩ (.int .i64 op)).setCell ⟨B, 1, none⟩ (.int .i64 0)).setCell ⟨B, 2, none⟩ (.slice (some ⟨w4.heap.size, 0, none⟩) 2 2)).alloc (.cells #[.int .i64 x.op, .int .i64 x.lay, .slice a n cc, .int .i64 y.op, .int .i64 y.lay, .slice ua un uc] 28)
    V.heap[w.heap.size]? = some (.cells #[.int .i64 0, .int .i64 0, .slice none 0 0] 28 (0, 0)) ∧ V.heap[B]? = some (.cells #[.int .i64 op, .int .i64 0, .slice (some ⟨w4.heap.size, 0, none⟩) 2 2] 28 (0, 0)) ∧ Lvs V LB ∧ w.grownBy V (some R) ∧
      Rep (fun k => w.heap.size + 1 ≤ k) V (.bin op x y) (.agg #[.int .i64 op, .int .i64 0, .slice (some ⟨w4.heap.size, 0, none⟩) 2 2]) ∧ Rdr V R t o := by
  intro V
  have hS := set_three_grown w4 B (.int .i64 op) (.int .i64 0) (.slice (some ⟨w4.heap.size, 0, none⟩) 2 2)
  have hB3 := lt_of_block hQ3
  have hs4 : w3.heap.size ≤ w4.heap.size := hG4.size
  have hQ4 := (hG4.block _ hB3 (by simp; omega)).trans hQ3
  have hE := res_three (.int .i64 op) (.int .i64 0) (.slice (some ⟨w4.heap.size, 0, none⟩) 2 2) hQ4
  have h4 : ∀ k, k < w4.heap.size → k ≠ B → V.heap[k]? = w4.heap[k]? := fun k hk hne =>
    (Below.heap_alloc _ _ _ (Nat.lt_of_lt_of_le hk hS.size)).trans (hS.block k hk (by simp; exact hne))
  have h3 : ∀ k, k < w3.heap.size → k ≠ B → k ≠ R → V.heap[k]? = w3.heap[k]? := fun k hk hne hr => (h4 k (by omega) hne).trans (hG4.block k hk (by simp; exact hr))
  have hN : V.heap[w4.heap.size]? = some (.cells #[.int .i64 x.op, .int .i64 x.lay, .slice a n cc, .int .i64 y.op, .int .i64 y.lay, .slice ua un uc] 28 (0, 0)) := by
    have := heap_alloc_new (((w4.setCell ⟨B, 0, none⟩ (.int .i64 op)).setCell ⟨B, 1, none⟩ (.int .i64 0)).setCell ⟨B, 2, none⟩ (.slice (some ⟨w4.heap.size, 0, none⟩) 2 2)) (.cells #[.int .i64 x.op, .int .i64 x.lay, .slice a n cc, .int .i64 y.op, .int .i64 y.lay, .slice ua un uc] 28)
    have hz : (((w4.setCell ⟨B, 0, none⟩ (.int .i64 op)).setCell ⟨B, 1, none⟩ (.int .i64 0)).setCell ⟨B, 2, none⟩ (.slice (some ⟨w4.heap.size, 0, none⟩) 2 2)).heap.size = w4.heap.size := by simp
    rw [hz] at this
    exact this
  refine ⟨(h3 _ (lt_of_block hX3) (by omega) (by omega)).trans hX3, (Below.heap_alloc _ _ _ (lt_of_block hE)).trans hE, ?_, ?_, ?_, (h4 _ hR4.lt (by omega)).trans hR4⟩
  · have hL4 : Lvs w4 LB := (show Lvs w3.drew LB from hL3).kept hG4 ⟨_, _, hR3⟩
    exact (hL4.kept2 hS ⟨_, _, hQ4⟩).below ((Below.refl _ _).alloc (Nat.le_refl _) _)
  · exact grown_same (grown_behind (by omega) (grown_same hG3 (show w3.grownBy w4 (some R) from ⟨hG4.os, hG4.tape, hG4.output, hG4.size, hG4.block⟩)) hS) (World.grownBy_alloc _ _ _)
  · refine ⟨w4.heap.size, 0, 2, _, _, _, _, _, _, rfl, by omega, by omega, by have := hG3.size; omega, ?_, ?_, ?_, ?_, ?_, ?_, hv3.keep (fun k hk hk2 => h3 k hk2 hk.2 (by omega)) (fun k hk _ => hk.1), hru.keep (fun k hk hk2 => h4 k hk2 (by have : w3.heap.size ≤ k := hk; omega)) (fun k hk _ => by have : w3.heap.size ≤ k := hk; omega)⟩ <;> simp [World.cell?, hN]

/-- What the region that joins two holds. -/
def HeldF (b : Nat) (x y z : Value) (W : World) : Prop :=
  W.cell? ⟨b, 0, none⟩ = some x ∧ W.cell? ⟨b, 1, none⟩ = some y ∧ W.cell? ⟨b, 2, none⟩ = some z ∧ W.frozen? ⟨b, 0, none⟩ = false ∧ W.frozen? ⟨b, 1, none⟩ = false ∧ W.frozen? ⟨b, 2, none⟩ = false

theorem HeldF.same {b : Nat} {x y z : Value} {W V : World} (h : HeldF b x y z W) (e : V.heap[b]? = W.heap[b]?) : HeldF b x y z V := by
  obtain ⟨h0, h1, h2, f0, f1, f2⟩ := h
  simp only [HeldF, World.cell?, World.frozen?, e] at *
  exact ⟨h0, h1, h2, f0, f1, f2⟩
theorem HeldF.grown {b R : Nat} {x y z : Value} {W V : World} (hb : b ≠ R) (h : HeldF b x y z W) (hg : W.grownBy V (some R)) : HeldF b x y z V :=
  h.same (hg.block b (World.block_lt_of_cell? W _ h.1) (by simp; exact hb))
theorem HeldF.alloc {b : Nat} {x y z : Value} {W : World} {o : Obj} (h : HeldF b x y z W) : HeldF b x y z (W.alloc o) :=
  h.same (Below.heap_alloc _ _ _ (World.block_lt_of_cell? W _ h.1))

/-- The levels that are handed on. -/
def LvArg (LB k : Nat) (v : Value) : Prop := (k = 0 ∧ ∃ a c, v = .slice a 0 c) ∨ (0 < k ∧ v = .slice (some ⟨LB, 3 - k, none⟩) k k)

/-- What a level comes to. -/
def LvSaid (k R o : Nat) (s : List UInt8) (x : Fm) (t : List UInt8) : Prop :=
  ∀ (w : World) (LB : Nat) (v : Value), Lvs w LB → LvArg LB k v → Rdr w R s o → Calls Tryz.prog 31 #[.pointer (some ⟨R, 0, none⟩), v] w (ReadPost w R o x t)

/-- What an atom comes to. -/
def AtSaid (R o : Nat) (s : List UInt8) (x : Fm) (t : List UInt8) : Prop :=
  ∀ (w : World), Rdr w R s o → Calls Tryz.prog 49 #[.pointer (some ⟨R, 0, none⟩)] w (ReadPost w R o x t)

set_option maxRecDepth 100000 in
theorem level_zero {R o : Nat} {s t : List UInt8} {x : Fm} (ih : AtSaid R o s x t) : LvSaid 0 R o s x t := by
  intro w LB v hL hv hR
  obtain ⟨a, c, rfl⟩ : ∃ a c, v = .slice a 0 c := by
    rcases hv with ⟨_, h⟩ | ⟨h, _⟩
    · exact h
    · omega
  have hl := hR.lt
  have hRH := hid hR
  clear hL hR hv
  go_enter Tryz.func31, Tryz.ntmps31
  go_wp2_with fail
  refine (ih _ (hRH.out.below ((Below.refl _ _).alloc (Nat.le_refl _) _))).mono ?_
  rintro e w1 ⟨v, rfl, hv, hR1, hG1⟩
  have hX1 : w1.heap[w.heap.size]? = some (.cells #[.int .i64 0, .int .i64 0, .slice none 0 0] 28 (0, 0)) := (hG1.block _ (by simp) (by simp; omega)).trans (heap_alloc_new w _)
  have hGw : w.grownBy w1 (some R) := grown_same (World.grownBy_alloc _ _ _) hG1
  have hv1 : Rep (fun k => w.heap.size + 1 ≤ k) w1 x v := hv.keep (fun k hk _ => rfl) (fun k hk _ => by simp at hk; exact hk)
  obtain ⟨a, n, cc, rfl⟩ := hv.agg
  have hX1H := hid hX1
  have hvH := hid hv1
  have hR1H := hid hR1
  obtain ⟨p0, p1, p2, pf0, pf1, pf2⟩ := three_cells hX1
  have hs1 := lt_of_block hX1
  clear hG1 hX1 hv hv1 hR1
  go_wp2_with fail
  obtain ⟨E, hv5, hR5, hG5⟩ := fin_three hX1H.out hvH.out hR1H.out hGw hl
  obtain ⟨c0, c1, c2, _, _, _⟩ := three_cells E
  generalize ((w1.setCell ⟨w.heap.size, 0, none⟩ (.int .i64 x.op)).setCell ⟨w.heap.size, 1, none⟩ (.int .i64 x.lay)).setCell ⟨w.heap.size, 2, none⟩ (.slice a n cc) = w5 at *
  exact bodyPost_ret (v := .agg #[.int .i64 x.op, .int .i64 x.lay, .slice a n cc]) (by simp [results, Tryz.results31, go_sem, c0, c1, c2]) rfl ⟨_, rfl, hv5, hR5, hG5⟩

set_option maxRecDepth 100000 in
theorem level_pass1 {R o : Nat} {s t : List UInt8} {x : Fm} (ih : LvSaid 0 R o s x t) (ht : opAt 1 (t.headD 0) = none) : LvSaid 1 R o s x t := by
  intro w LB v hL hv hR
  obtain rfl : v = .slice (some ⟨LB, 2, none⟩) 1 1 := by
    rcases hv with ⟨h, _⟩ | ⟨_, h⟩
    · omega
    · exact h
  have hl := hR.lt
  have hRH := hid hR
  have hLH := hid hL
  clear hL hR hv
  go_enter Tryz.func31, Tryz.ntmps31
  go_wp2_with fail
  refine (ih _ LB _ (hLH.out.below ((Below.refl _ _).alloc (Nat.le_refl _) _)) (.inl ⟨rfl, _, _, rfl⟩) (hRH.out.below ((Below.refl _ _).alloc (Nat.le_refl _) _))).mono ?_
  rintro e w1 ⟨v, rfl, hv, hR1, hG1⟩
  have hX1 : w1.heap[w.heap.size]? = some (.cells #[.int .i64 0, .int .i64 0, .slice none 0 0] 28 (0, 0)) := (hG1.block _ (by simp) (by simp; omega)).trans (heap_alloc_new w _)
  have hGw : w.grownBy w1 (some R) := grown_same (World.grownBy_alloc _ _ _) hG1
  have hv1 : Rep (fun k => w.heap.size + 1 ≤ k) w1 x v := hv.keep (fun k hk _ => rfl) (fun k hk _ => by simp at hk; exact hk)
  have hL1 : Lvs w1 LB := (hLH.out.below ((Below.refl _ _).alloc (Nat.le_refl _) _)).kept hG1 ⟨_, _, hRH.out.below ((Below.refl _ _).alloc (Nat.le_refl _) _)⟩
  obtain ⟨a, n, cc, rfl⟩ := hv.agg
  have hs1 := lt_of_block hX1
  have hX2 : (w1.alloc (.cells #[.int .i64 x.op, .int .i64 x.lay, .slice a n cc] 28)).heap[w.heap.size]? = _ := (Below.heap_alloc _ _ _ hs1).trans hX1
  have hR2 : Rdr (w1.alloc (.cells #[.int .i64 x.op, .int .i64 x.lay, .slice a n cc] 28)) R t o := hR1.below ((Below.refl _ _).alloc (Nat.le_refl _) _)
  have hv2 := hv1.grew (B := w1.heap.size) ((Below.refl _ w1).alloc (Nat.le_refl _) (.cells #[.int .i64 x.op, .int .i64 x.lay, .slice a n cc] 28)) (Nat.le_refl _)
  have hG2 : w.grownBy (w1.alloc (.cells #[.int .i64 x.op, .int .i64 x.lay, .slice a n cc] 28)) (some R) := grown_same hGw (World.grownBy_alloc _ _ _)
  obtain ⟨m, l0, l1, l2, l3⟩ := hL1.below (w' := w1.alloc (.cells #[.int .i64 x.op, .int .i64 x.lay, .slice a n cc] 28)) ((Below.refl _ _).alloc (Nat.le_refl _) _)
  have hc : (w1.alloc (.cells #[.int .i64 x.op, .int .i64 x.lay, .slice a n cc] 28)).cell? ⟨LB, 2, none⟩ = some (.map (some (m + 2))) := by simp [World.cell?, l0]
  have hlk : ∀ q, (Instr.lookup 81 (.map (some (m + 2))) (.int .u8 (t.headD 0).toNat) true).run Tryz.prog ((w1.alloc (.cells #[.int .i64 x.op, .int .i64 x.lay, .slice a n cc] 28)).drewN q) = .ok (.tuple #[.int .i64 0, .bool false]) ((w1.alloc (.cells #[.int .i64 x.op, .int .i64 x.lay, .slice a n cc] 28)).drewN q) := fun q => by
    have h := map_find 1 (t.headD 0) ((w1.alloc (.cells #[.int .i64 x.op, .int .i64 x.lay, .slice a n cc] 28)).drewN q) (m + 2) (show _ = some (sgnO 1) from l3)
    rw [ht] at h
    exact h
  have hlb := lt_of_block l0
  have hX2H := hid hX2
  have hvH := hid hv2
  have hR2H := hid hR2
  have hG2H := hid hG2
  obtain ⟨p0, p1, p2, pf0, pf1, pf2⟩ := three_cells hX2
  have q := heap_alloc_new w1 (.cells #[.int .i64 x.op, .int .i64 x.lay, .slice a n cc] 28)
  obtain ⟨q0, q1, q2, _, _, _⟩ := three_cells q
  have hs2 := lt_of_block q
  clear hG1 hX1 hv hv1 hR1 hX2 hR2 hL1 hv2 hG2 l0 l1 l2 l3 q hGw
  go_wp2_with fail
  generalize hw2 : w1.alloc (.cells #[.int .i64 x.op, .int .i64 x.lay, .slice a n cc] 28) = w2 at *
  clear hw2
  refine wp_region_quiet_lit (by kernel_rfl) (by kernel_rfl) ?_
  repeat (go_big_quiet_step (first | (go_at_call 50; exact Calls.quiet_of_same (first_any _ R o t hR2H.out))))
  try (refine wpQuiet_lookup rfl rfl _ hlk ?_; go_frame; repeat (go_big_quiet_step (fail)))
  refine wpQuiet_nil ?_
  rintro _ ⟨nq, rfl⟩
  go_wp2_with fail
  refine wp_loop_rounds 1 ?_; rw [rounds_succ]
  go_wp2_with fail
  obtain ⟨E, hv5, hR5, hG5⟩ := fin_three (W := w2.drewN nq) hX2H.out (Rep.keep (A := fun k => w.heap.size + 1 ≤ k) (B := fun k => w.heap.size + 1 ≤ k) (w := w2) (w' := w2.drewN nq) (fun k hk _ => rfl) (fun k hk _ => hk) hvH.out) (show Rdr (w2.drewN nq) R t o from hR2H.out) (grown_drewN hG2H.out nq) hl
  obtain ⟨c0, c1, c2, _, _, _⟩ := three_cells E
  generalize (((w2.drewN nq).setCell ⟨w.heap.size, 0, none⟩ (.int .i64 x.op)).setCell ⟨w.heap.size, 1, none⟩ (.int .i64 x.lay)).setCell ⟨w.heap.size, 2, none⟩ (.slice a n cc) = w5 at *
  exact bodyPost_ret (v := .agg #[.int .i64 x.op, .int .i64 x.lay, .slice a n cc]) (by simp [results, Tryz.results31, go_sem, c0, c1, c2]) rfl ⟨_, rfl, hv5, hR5, hG5⟩

set_option maxRecDepth 100000 in
theorem level_pass2 {R o : Nat} {s t : List UInt8} {x : Fm} (ih : LvSaid 1 R o s x t) (ht : opAt 2 (t.headD 0) = none) : LvSaid 2 R o s x t := by
  intro w LB v hL hv hR
  obtain rfl : v = .slice (some ⟨LB, 1, none⟩) 2 2 := by
    rcases hv with ⟨h, _⟩ | ⟨_, h⟩
    · omega
    · exact h
  have hl := hR.lt
  have hRH := hid hR
  have hLH := hid hL
  clear hL hR hv
  go_enter Tryz.func31, Tryz.ntmps31
  go_wp2_with fail
  refine (ih _ LB _ (hLH.out.below ((Below.refl _ _).alloc (Nat.le_refl _) _)) (.inr ⟨by omega, rfl⟩) (hRH.out.below ((Below.refl _ _).alloc (Nat.le_refl _) _))).mono ?_
  rintro e w1 ⟨v, rfl, hv, hR1, hG1⟩
  have hX1 : w1.heap[w.heap.size]? = some (.cells #[.int .i64 0, .int .i64 0, .slice none 0 0] 28 (0, 0)) := (hG1.block _ (by simp) (by simp; omega)).trans (heap_alloc_new w _)
  have hGw : w.grownBy w1 (some R) := grown_same (World.grownBy_alloc _ _ _) hG1
  have hv1 : Rep (fun k => w.heap.size + 1 ≤ k) w1 x v := hv.keep (fun k hk _ => rfl) (fun k hk _ => by simp at hk; exact hk)
  have hL1 : Lvs w1 LB := (hLH.out.below ((Below.refl _ _).alloc (Nat.le_refl _) _)).kept hG1 ⟨_, _, hRH.out.below ((Below.refl _ _).alloc (Nat.le_refl _) _)⟩
  obtain ⟨a, n, cc, rfl⟩ := hv.agg
  have hs1 := lt_of_block hX1
  have hX2 : (w1.alloc (.cells #[.int .i64 x.op, .int .i64 x.lay, .slice a n cc] 28)).heap[w.heap.size]? = _ := (Below.heap_alloc _ _ _ hs1).trans hX1
  have hR2 : Rdr (w1.alloc (.cells #[.int .i64 x.op, .int .i64 x.lay, .slice a n cc] 28)) R t o := hR1.below ((Below.refl _ _).alloc (Nat.le_refl _) _)
  have hv2 := hv1.grew (B := w1.heap.size) ((Below.refl _ w1).alloc (Nat.le_refl _) (.cells #[.int .i64 x.op, .int .i64 x.lay, .slice a n cc] 28)) (Nat.le_refl _)
  have hG2 : w.grownBy (w1.alloc (.cells #[.int .i64 x.op, .int .i64 x.lay, .slice a n cc] 28)) (some R) := grown_same hGw (World.grownBy_alloc _ _ _)
  obtain ⟨m, l0, l1, l2, l3⟩ := hL1.below (w' := w1.alloc (.cells #[.int .i64 x.op, .int .i64 x.lay, .slice a n cc] 28)) ((Below.refl _ _).alloc (Nat.le_refl _) _)
  have hc : (w1.alloc (.cells #[.int .i64 x.op, .int .i64 x.lay, .slice a n cc] 28)).cell? ⟨LB, 1, none⟩ = some (.map (some (m + 1))) := by simp [World.cell?, l0]
  have hlk : ∀ q, (Instr.lookup 81 (.map (some (m + 1))) (.int .u8 (t.headD 0).toNat) true).run Tryz.prog ((w1.alloc (.cells #[.int .i64 x.op, .int .i64 x.lay, .slice a n cc] 28)).drewN q) = .ok (.tuple #[.int .i64 0, .bool false]) ((w1.alloc (.cells #[.int .i64 x.op, .int .i64 x.lay, .slice a n cc] 28)).drewN q) := fun q => by
    have h := map_find 2 (t.headD 0) ((w1.alloc (.cells #[.int .i64 x.op, .int .i64 x.lay, .slice a n cc] 28)).drewN q) (m + 1) (show _ = some (sgnO 2) from l2)
    rw [ht] at h
    exact h
  have hlb := lt_of_block l0
  have hX2H := hid hX2
  have hvH := hid hv2
  have hR2H := hid hR2
  have hG2H := hid hG2
  obtain ⟨p0, p1, p2, pf0, pf1, pf2⟩ := three_cells hX2
  have q := heap_alloc_new w1 (.cells #[.int .i64 x.op, .int .i64 x.lay, .slice a n cc] 28)
  obtain ⟨q0, q1, q2, _, _, _⟩ := three_cells q
  have hs2 := lt_of_block q
  clear hG1 hX1 hv hv1 hR1 hX2 hR2 hL1 hv2 hG2 l0 l1 l2 l3 q hGw
  go_wp2_with fail
  generalize hw2 : w1.alloc (.cells #[.int .i64 x.op, .int .i64 x.lay, .slice a n cc] 28) = w2 at *
  clear hw2
  refine wp_region_quiet_lit (by kernel_rfl) (by kernel_rfl) ?_
  repeat (go_big_quiet_step (first | (go_at_call 50; exact Calls.quiet_of_same (first_any _ R o t hR2H.out))))
  try (refine wpQuiet_lookup rfl rfl _ hlk ?_; go_frame; repeat (go_big_quiet_step (fail)))
  refine wpQuiet_nil ?_
  rintro _ ⟨nq, rfl⟩
  go_wp2_with fail
  refine wp_loop_rounds 1 ?_; rw [rounds_succ]
  go_wp2_with fail
  obtain ⟨E, hv5, hR5, hG5⟩ := fin_three (W := w2.drewN nq) hX2H.out (Rep.keep (A := fun k => w.heap.size + 1 ≤ k) (B := fun k => w.heap.size + 1 ≤ k) (w := w2) (w' := w2.drewN nq) (fun k hk _ => rfl) (fun k hk _ => hk) hvH.out) (show Rdr (w2.drewN nq) R t o from hR2H.out) (grown_drewN hG2H.out nq) hl
  obtain ⟨c0, c1, c2, _, _, _⟩ := three_cells E
  generalize (((w2.drewN nq).setCell ⟨w.heap.size, 0, none⟩ (.int .i64 x.op)).setCell ⟨w.heap.size, 1, none⟩ (.int .i64 x.lay)).setCell ⟨w.heap.size, 2, none⟩ (.slice a n cc) = w5 at *
  exact bodyPost_ret (v := .agg #[.int .i64 x.op, .int .i64 x.lay, .slice a n cc]) (by simp [results, Tryz.results31, go_sem, c0, c1, c2]) rfl ⟨_, rfl, hv5, hR5, hG5⟩

set_option maxRecDepth 100000 in
theorem level_pass3 {R o : Nat} {s t : List UInt8} {x : Fm} (ih : LvSaid 2 R o s x t) (ht : opAt 3 (t.headD 0) = none) : LvSaid 3 R o s x t := by
  intro w LB v hL hv hR
  obtain rfl : v = .slice (some ⟨LB, 0, none⟩) 3 3 := by
    rcases hv with ⟨h, _⟩ | ⟨_, h⟩
    · omega
    · exact h
  have hl := hR.lt
  have hRH := hid hR
  have hLH := hid hL
  clear hL hR hv
  go_enter Tryz.func31, Tryz.ntmps31
  go_wp2_with fail
  refine (ih _ LB _ (hLH.out.below ((Below.refl _ _).alloc (Nat.le_refl _) _)) (.inr ⟨by omega, rfl⟩) (hRH.out.below ((Below.refl _ _).alloc (Nat.le_refl _) _))).mono ?_
  rintro e w1 ⟨v, rfl, hv, hR1, hG1⟩
  have hX1 : w1.heap[w.heap.size]? = some (.cells #[.int .i64 0, .int .i64 0, .slice none 0 0] 28 (0, 0)) := (hG1.block _ (by simp) (by simp; omega)).trans (heap_alloc_new w _)
  have hGw : w.grownBy w1 (some R) := grown_same (World.grownBy_alloc _ _ _) hG1
  have hv1 : Rep (fun k => w.heap.size + 1 ≤ k) w1 x v := hv.keep (fun k hk _ => rfl) (fun k hk _ => by simp at hk; exact hk)
  have hL1 : Lvs w1 LB := (hLH.out.below ((Below.refl _ _).alloc (Nat.le_refl _) _)).kept hG1 ⟨_, _, hRH.out.below ((Below.refl _ _).alloc (Nat.le_refl _) _)⟩
  obtain ⟨a, n, cc, rfl⟩ := hv.agg
  have hs1 := lt_of_block hX1
  have hX2 : (w1.alloc (.cells #[.int .i64 x.op, .int .i64 x.lay, .slice a n cc] 28)).heap[w.heap.size]? = _ := (Below.heap_alloc _ _ _ hs1).trans hX1
  have hR2 : Rdr (w1.alloc (.cells #[.int .i64 x.op, .int .i64 x.lay, .slice a n cc] 28)) R t o := hR1.below ((Below.refl _ _).alloc (Nat.le_refl _) _)
  have hv2 := hv1.grew (B := w1.heap.size) ((Below.refl _ w1).alloc (Nat.le_refl _) (.cells #[.int .i64 x.op, .int .i64 x.lay, .slice a n cc] 28)) (Nat.le_refl _)
  have hG2 : w.grownBy (w1.alloc (.cells #[.int .i64 x.op, .int .i64 x.lay, .slice a n cc] 28)) (some R) := grown_same hGw (World.grownBy_alloc _ _ _)
  obtain ⟨m, l0, l1, l2, l3⟩ := hL1.below (w' := w1.alloc (.cells #[.int .i64 x.op, .int .i64 x.lay, .slice a n cc] 28)) ((Below.refl _ _).alloc (Nat.le_refl _) _)
  have hc : (w1.alloc (.cells #[.int .i64 x.op, .int .i64 x.lay, .slice a n cc] 28)).cell? ⟨LB, 0, none⟩ = some (.map (some (m + 0))) := by simp [World.cell?, l0]
  have hlk : ∀ q, (Instr.lookup 81 (.map (some (m + 0))) (.int .u8 (t.headD 0).toNat) true).run Tryz.prog ((w1.alloc (.cells #[.int .i64 x.op, .int .i64 x.lay, .slice a n cc] 28)).drewN q) = .ok (.tuple #[.int .i64 0, .bool false]) ((w1.alloc (.cells #[.int .i64 x.op, .int .i64 x.lay, .slice a n cc] 28)).drewN q) := fun q => by
    have h := map_find 3 (t.headD 0) ((w1.alloc (.cells #[.int .i64 x.op, .int .i64 x.lay, .slice a n cc] 28)).drewN q) (m + 0) (show _ = some (sgnO 3) from l1)
    rw [ht] at h
    exact h
  have hlb := lt_of_block l0
  have hX2H := hid hX2
  have hvH := hid hv2
  have hR2H := hid hR2
  have hG2H := hid hG2
  obtain ⟨p0, p1, p2, pf0, pf1, pf2⟩ := three_cells hX2
  have q := heap_alloc_new w1 (.cells #[.int .i64 x.op, .int .i64 x.lay, .slice a n cc] 28)
  obtain ⟨q0, q1, q2, _, _, _⟩ := three_cells q
  have hs2 := lt_of_block q
  clear hG1 hX1 hv hv1 hR1 hX2 hR2 hL1 hv2 hG2 l0 l1 l2 l3 q hGw
  go_wp2_with fail
  generalize hw2 : w1.alloc (.cells #[.int .i64 x.op, .int .i64 x.lay, .slice a n cc] 28) = w2 at *
  clear hw2
  refine wp_region_quiet_lit (by kernel_rfl) (by kernel_rfl) ?_
  repeat (go_big_quiet_step (first | (go_at_call 50; exact Calls.quiet_of_same (first_any _ R o t hR2H.out))))
  try (refine wpQuiet_lookup rfl rfl _ hlk ?_; go_frame; repeat (go_big_quiet_step (fail)))
  refine wpQuiet_nil ?_
  rintro _ ⟨nq, rfl⟩
  go_wp2_with fail
  refine wp_loop_rounds 1 ?_; rw [rounds_succ]
  go_wp2_with fail
  obtain ⟨E, hv5, hR5, hG5⟩ := fin_three (W := w2.drewN nq) hX2H.out (Rep.keep (A := fun k => w.heap.size + 1 ≤ k) (B := fun k => w.heap.size + 1 ≤ k) (w := w2) (w' := w2.drewN nq) (fun k hk _ => rfl) (fun k hk _ => hk) hvH.out) (show Rdr (w2.drewN nq) R t o from hR2H.out) (grown_drewN hG2H.out nq) hl
  obtain ⟨c0, c1, c2, _, _, _⟩ := three_cells E
  generalize (((w2.drewN nq).setCell ⟨w.heap.size, 0, none⟩ (.int .i64 x.op)).setCell ⟨w.heap.size, 1, none⟩ (.int .i64 x.lay)).setCell ⟨w.heap.size, 2, none⟩ (.slice a n cc) = w5 at *
  exact bodyPost_ret (v := .agg #[.int .i64 x.op, .int .i64 x.lay, .slice a n cc]) (by simp [results, Tryz.results31, go_sem, c0, c1, c2]) rfl ⟨_, rfl, hv5, hR5, hG5⟩

set_option maxRecDepth 100000 in
set_option maxHeartbeats 1000000 in
theorem level_bin1 {R o : Nat} {s s2 t : List UInt8} {c : UInt8} {x y : Fm} {op : Nat} (ih : LvSaid 0 R o s x (c :: s2)) (ih2 : LvSaid 0 R o s2 y t) (hop : opAt 1 c = some op) (ht : opAt 1 (t.headD 0) = none) : LvSaid 1 R o s (.bin op x y) t := by
  intro w LB v hL hv hR
  obtain rfl : v = .slice (some ⟨LB, 2, none⟩) 1 1 := by
    rcases hv with ⟨h, _⟩ | ⟨_, h⟩
    · omega
    · exact h
  have hl := hR.lt
  have hRH := hid hR
  have hLH := hid hL
  clear hL hR hv
  go_enter Tryz.func31, Tryz.ntmps31
  go_wp2_with fail
  refine (ih _ LB _ (hLH.out.below ((Below.refl _ _).alloc (Nat.le_refl _) _)) (.inl ⟨rfl, _, _, rfl⟩) (hRH.out.below ((Below.refl _ _).alloc (Nat.le_refl _) _))).mono ?_
  rintro e w1 ⟨v, rfl, hv, hR1, hG1⟩
  have hX1 : w1.heap[w.heap.size]? = some (.cells #[.int .i64 0, .int .i64 0, .slice none 0 0] 28 (0, 0)) := (hG1.block _ (by simp) (by simp; omega)).trans (heap_alloc_new w _)
  have hGw : w.grownBy w1 (some R) := grown_same (World.grownBy_alloc _ _ _) hG1
  have hv1 : Rep (fun k => w.heap.size + 1 ≤ k ∧ k ≠ w1.heap.size) w1 x v := hv.keep (fun k hk _ => rfl) (fun k hk hk2 => ⟨by simp at hk; exact hk, by omega⟩)
  have hL1 : Lvs w1 LB := (hLH.out.below ((Below.refl _ _).alloc (Nat.le_refl _) _)).kept hG1 ⟨_, _, hRH.out.below ((Below.refl _ _).alloc (Nat.le_refl _) _)⟩
  obtain ⟨a, n, cc, rfl⟩ := hv.agg
  have hs1 := lt_of_block hX1
  have hX2 : (w1.alloc (.cells #[.int .i64 x.op, .int .i64 x.lay, .slice a n cc] 28)).heap[w.heap.size]? = _ := (Below.heap_alloc _ _ _ hs1).trans hX1
  have hR2 : Rdr (w1.alloc (.cells #[.int .i64 x.op, .int .i64 x.lay, .slice a n cc] 28)) R (c :: s2) o := hR1.below ((Below.refl _ _).alloc (Nat.le_refl _) _)
  have hv2 := hv1.grew (B := w1.heap.size) ((Below.refl _ w1).alloc (Nat.le_refl _) (.cells #[.int .i64 x.op, .int .i64 x.lay, .slice a n cc] 28)) (Nat.le_refl _)
  have hG2 : w.grownBy (w1.alloc (.cells #[.int .i64 x.op, .int .i64 x.lay, .slice a n cc] 28)) (some R) := grown_same hGw (World.grownBy_alloc _ _ _)
  have hL2 := hL1.below (w' := w1.alloc (.cells #[.int .i64 x.op, .int .i64 x.lay, .slice a n cc] 28)) ((Below.refl _ _).alloc (Nat.le_refl _) _)
  have hL2H := hid hL2
  obtain ⟨m, l0, l1, l2, l3⟩ := hL2
  have hc : (w1.alloc (.cells #[.int .i64 x.op, .int .i64 x.lay, .slice a n cc] 28)).cell? ⟨LB, 2, none⟩ = some (.map (some (m + 2))) := by simp [World.cell?, l0]
  have hlk : ∀ q, (Instr.lookup 81 (.map (some (m + 2))) (.int .u8 c.toNat) true).run Tryz.prog ((w1.alloc (.cells #[.int .i64 x.op, .int .i64 x.lay, .slice a n cc] 28)).drewN q) = .ok (.tuple #[.int .i64 op, .bool true]) ((w1.alloc (.cells #[.int .i64 x.op, .int .i64 x.lay, .slice a n cc] 28)).drewN q) := fun q => by
    have h := map_find 1 c ((w1.alloc (.cells #[.int .i64 x.op, .int .i64 x.lay, .slice a n cc] 28)).drewN q) (m + 2) (show _ = some (sgnO 1) from l3)
    rw [hop] at h
    exact h
  have hlb := lt_of_block l0
  have hX2H := hid hX2
  have hvH := hid hv2
  have hR2H := hid hR2
  have hG2H := hid hG2
  obtain ⟨p0, p1, p2, pf0, pf1, pf2⟩ := three_cells hX2
  have q := heap_alloc_new w1 (.cells #[.int .i64 x.op, .int .i64 x.lay, .slice a n cc] 28)
  obtain ⟨q0, q1, q2, qf0, qf1, qf2⟩ := three_cells q
  have hqH := hid q
  have hs2 := lt_of_block q
  clear hG1 hX1 hv hv1 hR1 hX2 hR2 hL1 hv2 hG2 l0 l1 l2 l3 q hGw
  go_wp2_with fail
  generalize hw2 : w1.alloc (.cells #[.int .i64 x.op, .int .i64 x.lay, .slice a n cc] 28) = w2 at *
  clear hw2
  refine wp_region_quiet_lit (by kernel_rfl) (by kernel_rfl) ?_
  repeat (go_big_quiet_step (first | (go_at_call 50; exact Calls.quiet_of_same (first_cons _ R o c s2 hR2H.out))))
  try (refine wpQuiet_lookup rfl rfl _ hlk ?_; go_frame; repeat (go_big_quiet_step (fail)))
  refine wpQuiet_nil ?_
  rintro _ ⟨nq, rfl⟩
  go_wp2_with fail
  refine wp_loop_rounds 2 ?_; rw [rounds_succ]
  go_wp2_with fail
  refine (skip_said (w2.drewN nq) R o c s2 hR2H.out).mono ?_
  rintro e w3 ⟨rfl, hR3, hG3⟩
  have hX3 : w3.heap[w.heap.size]? = some (.cells #[.int .i64 0, .int .i64 0, .slice none 0 0] 28 (0, 0)) := (hG3.block _ (show w.heap.size < w2.heap.size by omega) (by simp; omega)).trans hX2H.out
  have hQ3 : w3.heap[w1.heap.size]? = some (.cells #[.int .i64 x.op, .int .i64 x.lay, .slice a n cc] 28 (0, 0)) := (hG3.block _ (show w1.heap.size < w2.heap.size by omega) (by simp; omega)).trans hqH.out
  have hL3 : Lvs w3 LB := (show Lvs (w2.drewN nq) LB from hL2H.out).kept hG3 ⟨_, _, hR2H.out⟩
  have hGw3 : w.grownBy w3 (some R) := grown_same (grown_drewN hG2H.out nq) hG3
  have hs3 := hG3.size
  have hv3 : Rep (fun k => w.heap.size + 1 ≤ k ∧ k ≠ w1.heap.size) w3 x (.agg #[.int .i64 x.op, .int .i64 x.lay, .slice a n cc]) := Rep.keep (w := w2) (fun k hk hk2 => hG3.block k hk2 (by have := hk.1; simp; omega)) (fun k hk _ => hk) hvH.out
  have hX3H := hid hX3
  have hQ3H := hid hQ3
  have hL3H := hid hL3
  have hG3H := hid hGw3
  have hv3H := hid hv3
  have hR3H := hid hR3
  have hs3b : w1.heap.size < w3.heap.size := lt_of_block hQ3
  clear p0 p1 p2 pf0 pf1 pf2 q0 q1 q2 qf0 qf1 qf2 hX3 hL3 hGw3 hv3 hc hlk hlb hX2H hqH hL2H hvH hR2H hG2H
  obtain ⟨p0, p1, p2, pf0, pf1, pf2⟩ := three_cells hQ3
  clear hQ3 hG3 hR3
  go_wp2_with fail
  go_region_with (first
      | (go_at_call 31; refine Calls.mono (ih2 _ LB _ (hL3H.out.below ((Below.refl _ _).drew)) (.inl ⟨rfl, _, _, rfl⟩) (hR3H.out.below ((Below.refl _ _).drew))) ?_; rintro e w4 ⟨u, rfl, hru, hR4, hG4⟩; obtain ⟨ua, un, uc, rfl⟩ := hru.agg; have hQ4 := (hG4.block _ hs3b (by simp; omega)).trans hQ3H.out; obtain ⟨k0, k1, k2, kf0, kf1, kf2⟩ := three_cells hQ4; have hsb4 := lt_of_block hQ4; have hru' := hid hru; have hR4' := hid hR4; have hG4' := hid hG4; clear hru hR4 hQ4 hG4))
  all_goals
    obtain ⟨hX5, hQ5, hL5, hG5, hv5, hR5⟩ := join_said (op := op) hl hs1 hX3H.out hQ3H.out hL3H.out hG3H.out hv3H.out hR3H.out hru'.out hR4'.out hG4'.out
    have hpos := hsb4
    generalize (((w4.setCell ⟨w1.heap.size, 0, none⟩ (.int .i64 op)).setCell ⟨w1.heap.size, 1, none⟩ (.int .i64 0)).setCell ⟨w1.heap.size, 2, none⟩ (.slice (some ⟨w4.heap.size, 0, none⟩) 2 2)).alloc (.cells #[.int .i64 x.op, .int .i64 x.lay, .slice a n cc, .int .i64 y.op, .int .i64 y.lay, .slice ua un uc] 28) = w5 at *
    obtain ⟨m, l0, l1, l2, l3⟩ := hL5
    have hc : w5.cell? ⟨LB, 2, none⟩ = some (.map (some (m + 2))) := by simp [World.cell?, l0]
    have hlk : ∀ q, (Instr.lookup 81 (.map (some (m + 2))) (.int .u8 (t.headD 0).toNat) true).run Tryz.prog (w5.drewN q) = .ok (.tuple #[.int .i64 0, .bool false]) (w5.drewN q) := fun q => by
      have h := map_find 1 (t.headD 0) (w5.drewN q) (m + 2) (show _ = some (sgnO 1) from l3)
      rw [ht] at h
      exact h
    have hlb := lt_of_block l0
    obtain ⟨p0, p1, p2, pf0, pf1, pf2⟩ := three_cells hX5
    obtain ⟨q0, q1, q2, qf0, qf1, qf2⟩ := three_cells hQ5
    have hs5 := lt_of_block hX5
    have hq5 := lt_of_block hQ5
    have hXH := hid hX5
    have hvH5 := hid hv5
    have hRH5 := hid hR5
    have hGH5 := hid hG5
    clear k0 k1 k2 kf0 kf1 kf2 hX5 hQ5 hv5 hR5 hG5 l0 l1 l2 l3 hru' hR4' hG4' hX3H hQ3H hL3H hG3H hv3H hR3H
    go_wp2_with fail
    refine wp_region_quiet_lit (by kernel_rfl) (by kernel_rfl) ?_
    repeat (go_big_quiet_step (first | (go_at_call 50; exact Calls.quiet_of_same (first_any _ R o t hRH5.out))))
    try (refine wpQuiet_lookup rfl rfl _ hlk ?_; go_frame; repeat (go_big_quiet_step (fail)))
    refine wpQuiet_nil ?_
    rintro _ ⟨nr, rfl⟩
    go_wp2_with fail
    rw [rounds_succ]
    go_wp2_with fail
    obtain ⟨E, hv6, hR6, hG6⟩ := fin_three (W := w5.drewN nr) hXH.out (Rep.keep (A := fun k => w.heap.size + 1 ≤ k) (B := fun k => w.heap.size + 1 ≤ k) (w := w5) (w' := w5.drewN nr) (fun k hk _ => rfl) (fun k hk _ => hk) hvH5.out) (show Rdr (w5.drewN nr) R t o from hRH5.out) (grown_drewN hGH5.out nr) hl
    obtain ⟨c0, c1, c2, _, _, _⟩ := three_cells E
    generalize (((w5.drewN nr).setCell ⟨w.heap.size, 0, none⟩ (.int .i64 op)).setCell ⟨w.heap.size, 1, none⟩ (.int .i64 0)).setCell ⟨w.heap.size, 2, none⟩ (.slice (some ⟨w4.heap.size, 0, none⟩) 2 2) = w6 at *
    exact bodyPost_ret (v := .agg #[.int .i64 op, .int .i64 0, .slice (some ⟨w4.heap.size, 0, none⟩) 2 2]) (by simp [results, Tryz.results31, go_sem, c0, c1, c2]) rfl ⟨_, rfl, hv6, hR6, hG6⟩

set_option maxRecDepth 100000 in
set_option maxHeartbeats 1000000 in
theorem level_bin2 {R o : Nat} {s s2 t : List UInt8} {c : UInt8} {x y : Fm} {op : Nat} (ih : LvSaid 1 R o s x (c :: s2)) (ih2 : LvSaid 1 R o s2 y t) (hop : opAt 2 c = some op) (ht : opAt 2 (t.headD 0) = none) : LvSaid 2 R o s (.bin op x y) t := by
  intro w LB v hL hv hR
  obtain rfl : v = .slice (some ⟨LB, 1, none⟩) 2 2 := by
    rcases hv with ⟨h, _⟩ | ⟨_, h⟩
    · omega
    · exact h
  have hl := hR.lt
  have hRH := hid hR
  have hLH := hid hL
  clear hL hR hv
  go_enter Tryz.func31, Tryz.ntmps31
  go_wp2_with fail
  refine (ih _ LB _ (hLH.out.below ((Below.refl _ _).alloc (Nat.le_refl _) _)) (.inr ⟨by omega, rfl⟩) (hRH.out.below ((Below.refl _ _).alloc (Nat.le_refl _) _))).mono ?_
  rintro e w1 ⟨v, rfl, hv, hR1, hG1⟩
  have hX1 : w1.heap[w.heap.size]? = some (.cells #[.int .i64 0, .int .i64 0, .slice none 0 0] 28 (0, 0)) := (hG1.block _ (by simp) (by simp; omega)).trans (heap_alloc_new w _)
  have hGw : w.grownBy w1 (some R) := grown_same (World.grownBy_alloc _ _ _) hG1
  have hv1 : Rep (fun k => w.heap.size + 1 ≤ k ∧ k ≠ w1.heap.size) w1 x v := hv.keep (fun k hk _ => rfl) (fun k hk hk2 => ⟨by simp at hk; exact hk, by omega⟩)
  have hL1 : Lvs w1 LB := (hLH.out.below ((Below.refl _ _).alloc (Nat.le_refl _) _)).kept hG1 ⟨_, _, hRH.out.below ((Below.refl _ _).alloc (Nat.le_refl _) _)⟩
  obtain ⟨a, n, cc, rfl⟩ := hv.agg
  have hs1 := lt_of_block hX1
  have hX2 : (w1.alloc (.cells #[.int .i64 x.op, .int .i64 x.lay, .slice a n cc] 28)).heap[w.heap.size]? = _ := (Below.heap_alloc _ _ _ hs1).trans hX1
  have hR2 : Rdr (w1.alloc (.cells #[.int .i64 x.op, .int .i64 x.lay, .slice a n cc] 28)) R (c :: s2) o := hR1.below ((Below.refl _ _).alloc (Nat.le_refl _) _)
  have hv2 := hv1.grew (B := w1.heap.size) ((Below.refl _ w1).alloc (Nat.le_refl _) (.cells #[.int .i64 x.op, .int .i64 x.lay, .slice a n cc] 28)) (Nat.le_refl _)
  have hG2 : w.grownBy (w1.alloc (.cells #[.int .i64 x.op, .int .i64 x.lay, .slice a n cc] 28)) (some R) := grown_same hGw (World.grownBy_alloc _ _ _)
  have hL2 := hL1.below (w' := w1.alloc (.cells #[.int .i64 x.op, .int .i64 x.lay, .slice a n cc] 28)) ((Below.refl _ _).alloc (Nat.le_refl _) _)
  have hL2H := hid hL2
  obtain ⟨m, l0, l1, l2, l3⟩ := hL2
  have hc : (w1.alloc (.cells #[.int .i64 x.op, .int .i64 x.lay, .slice a n cc] 28)).cell? ⟨LB, 1, none⟩ = some (.map (some (m + 1))) := by simp [World.cell?, l0]
  have hlk : ∀ q, (Instr.lookup 81 (.map (some (m + 1))) (.int .u8 c.toNat) true).run Tryz.prog ((w1.alloc (.cells #[.int .i64 x.op, .int .i64 x.lay, .slice a n cc] 28)).drewN q) = .ok (.tuple #[.int .i64 op, .bool true]) ((w1.alloc (.cells #[.int .i64 x.op, .int .i64 x.lay, .slice a n cc] 28)).drewN q) := fun q => by
    have h := map_find 2 c ((w1.alloc (.cells #[.int .i64 x.op, .int .i64 x.lay, .slice a n cc] 28)).drewN q) (m + 1) (show _ = some (sgnO 2) from l2)
    rw [hop] at h
    exact h
  have hlb := lt_of_block l0
  have hX2H := hid hX2
  have hvH := hid hv2
  have hR2H := hid hR2
  have hG2H := hid hG2
  obtain ⟨p0, p1, p2, pf0, pf1, pf2⟩ := three_cells hX2
  have q := heap_alloc_new w1 (.cells #[.int .i64 x.op, .int .i64 x.lay, .slice a n cc] 28)
  obtain ⟨q0, q1, q2, qf0, qf1, qf2⟩ := three_cells q
  have hqH := hid q
  have hs2 := lt_of_block q
  clear hG1 hX1 hv hv1 hR1 hX2 hR2 hL1 hv2 hG2 l0 l1 l2 l3 q hGw
  go_wp2_with fail
  generalize hw2 : w1.alloc (.cells #[.int .i64 x.op, .int .i64 x.lay, .slice a n cc] 28) = w2 at *
  clear hw2
  refine wp_region_quiet_lit (by kernel_rfl) (by kernel_rfl) ?_
  repeat (go_big_quiet_step (first | (go_at_call 50; exact Calls.quiet_of_same (first_cons _ R o c s2 hR2H.out))))
  try (refine wpQuiet_lookup rfl rfl _ hlk ?_; go_frame; repeat (go_big_quiet_step (fail)))
  refine wpQuiet_nil ?_
  rintro _ ⟨nq, rfl⟩
  go_wp2_with fail
  refine wp_loop_rounds 2 ?_; rw [rounds_succ]
  go_wp2_with fail
  refine (skip_said (w2.drewN nq) R o c s2 hR2H.out).mono ?_
  rintro e w3 ⟨rfl, hR3, hG3⟩
  have hX3 : w3.heap[w.heap.size]? = some (.cells #[.int .i64 0, .int .i64 0, .slice none 0 0] 28 (0, 0)) := (hG3.block _ (show w.heap.size < w2.heap.size by omega) (by simp; omega)).trans hX2H.out
  have hQ3 : w3.heap[w1.heap.size]? = some (.cells #[.int .i64 x.op, .int .i64 x.lay, .slice a n cc] 28 (0, 0)) := (hG3.block _ (show w1.heap.size < w2.heap.size by omega) (by simp; omega)).trans hqH.out
  have hL3 : Lvs w3 LB := (show Lvs (w2.drewN nq) LB from hL2H.out).kept hG3 ⟨_, _, hR2H.out⟩
  have hGw3 : w.grownBy w3 (some R) := grown_same (grown_drewN hG2H.out nq) hG3
  have hs3 := hG3.size
  have hv3 : Rep (fun k => w.heap.size + 1 ≤ k ∧ k ≠ w1.heap.size) w3 x (.agg #[.int .i64 x.op, .int .i64 x.lay, .slice a n cc]) := Rep.keep (w := w2) (fun k hk hk2 => hG3.block k hk2 (by have := hk.1; simp; omega)) (fun k hk _ => hk) hvH.out
  have hX3H := hid hX3
  have hQ3H := hid hQ3
  have hL3H := hid hL3
  have hG3H := hid hGw3
  have hv3H := hid hv3
  have hR3H := hid hR3
  have hs3b : w1.heap.size < w3.heap.size := lt_of_block hQ3
  clear p0 p1 p2 pf0 pf1 pf2 q0 q1 q2 qf0 qf1 qf2 hX3 hL3 hGw3 hv3 hc hlk hlb hX2H hqH hL2H hvH hR2H hG2H
  obtain ⟨p0, p1, p2, pf0, pf1, pf2⟩ := three_cells hQ3
  clear hQ3 hG3 hR3
  go_wp2_with fail
  go_region_with (first
      | (go_at_call 31; refine Calls.mono (ih2 _ LB _ (hL3H.out.below ((Below.refl _ _).drew)) (.inr ⟨by omega, rfl⟩) (hR3H.out.below ((Below.refl _ _).drew))) ?_; rintro e w4 ⟨u, rfl, hru, hR4, hG4⟩; obtain ⟨ua, un, uc, rfl⟩ := hru.agg; have hQ4 := (hG4.block _ hs3b (by simp; omega)).trans hQ3H.out; obtain ⟨k0, k1, k2, kf0, kf1, kf2⟩ := three_cells hQ4; have hsb4 := lt_of_block hQ4; have hru' := hid hru; have hR4' := hid hR4; have hG4' := hid hG4; clear hru hR4 hQ4 hG4))
  all_goals
    obtain ⟨hX5, hQ5, hL5, hG5, hv5, hR5⟩ := join_said (op := op) hl hs1 hX3H.out hQ3H.out hL3H.out hG3H.out hv3H.out hR3H.out hru'.out hR4'.out hG4'.out
    have hpos := hsb4
    generalize (((w4.setCell ⟨w1.heap.size, 0, none⟩ (.int .i64 op)).setCell ⟨w1.heap.size, 1, none⟩ (.int .i64 0)).setCell ⟨w1.heap.size, 2, none⟩ (.slice (some ⟨w4.heap.size, 0, none⟩) 2 2)).alloc (.cells #[.int .i64 x.op, .int .i64 x.lay, .slice a n cc, .int .i64 y.op, .int .i64 y.lay, .slice ua un uc] 28) = w5 at *
    obtain ⟨m, l0, l1, l2, l3⟩ := hL5
    have hc : w5.cell? ⟨LB, 1, none⟩ = some (.map (some (m + 1))) := by simp [World.cell?, l0]
    have hlk : ∀ q, (Instr.lookup 81 (.map (some (m + 1))) (.int .u8 (t.headD 0).toNat) true).run Tryz.prog (w5.drewN q) = .ok (.tuple #[.int .i64 0, .bool false]) (w5.drewN q) := fun q => by
      have h := map_find 2 (t.headD 0) (w5.drewN q) (m + 1) (show _ = some (sgnO 2) from l2)
      rw [ht] at h
      exact h
    have hlb := lt_of_block l0
    obtain ⟨p0, p1, p2, pf0, pf1, pf2⟩ := three_cells hX5
    obtain ⟨q0, q1, q2, qf0, qf1, qf2⟩ := three_cells hQ5
    have hs5 := lt_of_block hX5
    have hq5 := lt_of_block hQ5
    have hXH := hid hX5
    have hvH5 := hid hv5
    have hRH5 := hid hR5
    have hGH5 := hid hG5
    clear k0 k1 k2 kf0 kf1 kf2 hX5 hQ5 hv5 hR5 hG5 l0 l1 l2 l3 hru' hR4' hG4' hX3H hQ3H hL3H hG3H hv3H hR3H
    go_wp2_with fail
    refine wp_region_quiet_lit (by kernel_rfl) (by kernel_rfl) ?_
    repeat (go_big_quiet_step (first | (go_at_call 50; exact Calls.quiet_of_same (first_any _ R o t hRH5.out))))
    try (refine wpQuiet_lookup rfl rfl _ hlk ?_; go_frame; repeat (go_big_quiet_step (fail)))
    refine wpQuiet_nil ?_
    rintro _ ⟨nr, rfl⟩
    go_wp2_with fail
    rw [rounds_succ]
    go_wp2_with fail
    obtain ⟨E, hv6, hR6, hG6⟩ := fin_three (W := w5.drewN nr) hXH.out (Rep.keep (A := fun k => w.heap.size + 1 ≤ k) (B := fun k => w.heap.size + 1 ≤ k) (w := w5) (w' := w5.drewN nr) (fun k hk _ => rfl) (fun k hk _ => hk) hvH5.out) (show Rdr (w5.drewN nr) R t o from hRH5.out) (grown_drewN hGH5.out nr) hl
    obtain ⟨c0, c1, c2, _, _, _⟩ := three_cells E
    generalize (((w5.drewN nr).setCell ⟨w.heap.size, 0, none⟩ (.int .i64 op)).setCell ⟨w.heap.size, 1, none⟩ (.int .i64 0)).setCell ⟨w.heap.size, 2, none⟩ (.slice (some ⟨w4.heap.size, 0, none⟩) 2 2) = w6 at *
    exact bodyPost_ret (v := .agg #[.int .i64 op, .int .i64 0, .slice (some ⟨w4.heap.size, 0, none⟩) 2 2]) (by simp [results, Tryz.results31, go_sem, c0, c1, c2]) rfl ⟨_, rfl, hv6, hR6, hG6⟩

set_option maxRecDepth 100000 in
set_option maxHeartbeats 1000000 in
theorem level_bin3 {R o : Nat} {s s2 t : List UInt8} {c : UInt8} {x y : Fm} {op : Nat} (ih : LvSaid 2 R o s x (c :: s2)) (ih2 : LvSaid 2 R o s2 y t) (hop : opAt 3 c = some op) (ht : opAt 3 (t.headD 0) = none) : LvSaid 3 R o s (.bin op x y) t := by
  intro w LB v hL hv hR
  obtain rfl : v = .slice (some ⟨LB, 0, none⟩) 3 3 := by
    rcases hv with ⟨h, _⟩ | ⟨_, h⟩
    · omega
    · exact h
  have hl := hR.lt
  have hRH := hid hR
  have hLH := hid hL
  clear hL hR hv
  go_enter Tryz.func31, Tryz.ntmps31
  go_wp2_with fail
  refine (ih _ LB _ (hLH.out.below ((Below.refl _ _).alloc (Nat.le_refl _) _)) (.inr ⟨by omega, rfl⟩) (hRH.out.below ((Below.refl _ _).alloc (Nat.le_refl _) _))).mono ?_
  rintro e w1 ⟨v, rfl, hv, hR1, hG1⟩
  have hX1 : w1.heap[w.heap.size]? = some (.cells #[.int .i64 0, .int .i64 0, .slice none 0 0] 28 (0, 0)) := (hG1.block _ (by simp) (by simp; omega)).trans (heap_alloc_new w _)
  have hGw : w.grownBy w1 (some R) := grown_same (World.grownBy_alloc _ _ _) hG1
  have hv1 : Rep (fun k => w.heap.size + 1 ≤ k ∧ k ≠ w1.heap.size) w1 x v := hv.keep (fun k hk _ => rfl) (fun k hk hk2 => ⟨by simp at hk; exact hk, by omega⟩)
  have hL1 : Lvs w1 LB := (hLH.out.below ((Below.refl _ _).alloc (Nat.le_refl _) _)).kept hG1 ⟨_, _, hRH.out.below ((Below.refl _ _).alloc (Nat.le_refl _) _)⟩
  obtain ⟨a, n, cc, rfl⟩ := hv.agg
  have hs1 := lt_of_block hX1
  have hX2 : (w1.alloc (.cells #[.int .i64 x.op, .int .i64 x.lay, .slice a n cc] 28)).heap[w.heap.size]? = _ := (Below.heap_alloc _ _ _ hs1).trans hX1
  have hR2 : Rdr (w1.alloc (.cells #[.int .i64 x.op, .int .i64 x.lay, .slice a n cc] 28)) R (c :: s2) o := hR1.below ((Below.refl _ _).alloc (Nat.le_refl _) _)
  have hv2 := hv1.grew (B := w1.heap.size) ((Below.refl _ w1).alloc (Nat.le_refl _) (.cells #[.int .i64 x.op, .int .i64 x.lay, .slice a n cc] 28)) (Nat.le_refl _)
  have hG2 : w.grownBy (w1.alloc (.cells #[.int .i64 x.op, .int .i64 x.lay, .slice a n cc] 28)) (some R) := grown_same hGw (World.grownBy_alloc _ _ _)
  have hL2 := hL1.below (w' := w1.alloc (.cells #[.int .i64 x.op, .int .i64 x.lay, .slice a n cc] 28)) ((Below.refl _ _).alloc (Nat.le_refl _) _)
  have hL2H := hid hL2
  obtain ⟨m, l0, l1, l2, l3⟩ := hL2
  have hc : (w1.alloc (.cells #[.int .i64 x.op, .int .i64 x.lay, .slice a n cc] 28)).cell? ⟨LB, 0, none⟩ = some (.map (some (m + 0))) := by simp [World.cell?, l0]
  have hlk : ∀ q, (Instr.lookup 81 (.map (some (m + 0))) (.int .u8 c.toNat) true).run Tryz.prog ((w1.alloc (.cells #[.int .i64 x.op, .int .i64 x.lay, .slice a n cc] 28)).drewN q) = .ok (.tuple #[.int .i64 op, .bool true]) ((w1.alloc (.cells #[.int .i64 x.op, .int .i64 x.lay, .slice a n cc] 28)).drewN q) := fun q => by
    have h := map_find 3 c ((w1.alloc (.cells #[.int .i64 x.op, .int .i64 x.lay, .slice a n cc] 28)).drewN q) (m + 0) (show _ = some (sgnO 3) from l1)
    rw [hop] at h
    exact h
  have hlb := lt_of_block l0
  have hX2H := hid hX2
  have hvH := hid hv2
  have hR2H := hid hR2
  have hG2H := hid hG2
  obtain ⟨p0, p1, p2, pf0, pf1, pf2⟩ := three_cells hX2
  have q := heap_alloc_new w1 (.cells #[.int .i64 x.op, .int .i64 x.lay, .slice a n cc] 28)
  obtain ⟨q0, q1, q2, qf0, qf1, qf2⟩ := three_cells q
  have hqH := hid q
  have hs2 := lt_of_block q
  clear hG1 hX1 hv hv1 hR1 hX2 hR2 hL1 hv2 hG2 l0 l1 l2 l3 q hGw
  go_wp2_with fail
  generalize hw2 : w1.alloc (.cells #[.int .i64 x.op, .int .i64 x.lay, .slice a n cc] 28) = w2 at *
  clear hw2
  refine wp_region_quiet_lit (by kernel_rfl) (by kernel_rfl) ?_
  repeat (go_big_quiet_step (first | (go_at_call 50; exact Calls.quiet_of_same (first_cons _ R o c s2 hR2H.out))))
  try (refine wpQuiet_lookup rfl rfl _ hlk ?_; go_frame; repeat (go_big_quiet_step (fail)))
  refine wpQuiet_nil ?_
  rintro _ ⟨nq, rfl⟩
  go_wp2_with fail
  refine wp_loop_rounds 2 ?_; rw [rounds_succ]
  go_wp2_with fail
  refine (skip_said (w2.drewN nq) R o c s2 hR2H.out).mono ?_
  rintro e w3 ⟨rfl, hR3, hG3⟩
  have hX3 : w3.heap[w.heap.size]? = some (.cells #[.int .i64 0, .int .i64 0, .slice none 0 0] 28 (0, 0)) := (hG3.block _ (show w.heap.size < w2.heap.size by omega) (by simp; omega)).trans hX2H.out
  have hQ3 : w3.heap[w1.heap.size]? = some (.cells #[.int .i64 x.op, .int .i64 x.lay, .slice a n cc] 28 (0, 0)) := (hG3.block _ (show w1.heap.size < w2.heap.size by omega) (by simp; omega)).trans hqH.out
  have hL3 : Lvs w3 LB := (show Lvs (w2.drewN nq) LB from hL2H.out).kept hG3 ⟨_, _, hR2H.out⟩
  have hGw3 : w.grownBy w3 (some R) := grown_same (grown_drewN hG2H.out nq) hG3
  have hs3 := hG3.size
  have hv3 : Rep (fun k => w.heap.size + 1 ≤ k ∧ k ≠ w1.heap.size) w3 x (.agg #[.int .i64 x.op, .int .i64 x.lay, .slice a n cc]) := Rep.keep (w := w2) (fun k hk hk2 => hG3.block k hk2 (by have := hk.1; simp; omega)) (fun k hk _ => hk) hvH.out
  have hX3H := hid hX3
  have hQ3H := hid hQ3
  have hL3H := hid hL3
  have hG3H := hid hGw3
  have hv3H := hid hv3
  have hR3H := hid hR3
  have hs3b : w1.heap.size < w3.heap.size := lt_of_block hQ3
  clear p0 p1 p2 pf0 pf1 pf2 q0 q1 q2 qf0 qf1 qf2 hX3 hL3 hGw3 hv3 hc hlk hlb hX2H hqH hL2H hvH hR2H hG2H
  obtain ⟨p0, p1, p2, pf0, pf1, pf2⟩ := three_cells hQ3
  clear hQ3 hG3 hR3
  go_wp2_with fail
  go_region_with (first
      | (go_at_call 31; refine Calls.mono (ih2 _ LB _ (hL3H.out.below ((Below.refl _ _).drew)) (.inr ⟨by omega, rfl⟩) (hR3H.out.below ((Below.refl _ _).drew))) ?_; rintro e w4 ⟨u, rfl, hru, hR4, hG4⟩; obtain ⟨ua, un, uc, rfl⟩ := hru.agg; have hQ4 := (hG4.block _ hs3b (by simp; omega)).trans hQ3H.out; obtain ⟨k0, k1, k2, kf0, kf1, kf2⟩ := three_cells hQ4; have hsb4 := lt_of_block hQ4; have hru' := hid hru; have hR4' := hid hR4; have hG4' := hid hG4; clear hru hR4 hQ4 hG4))
  all_goals
    obtain ⟨hX5, hQ5, hL5, hG5, hv5, hR5⟩ := join_said (op := op) hl hs1 hX3H.out hQ3H.out hL3H.out hG3H.out hv3H.out hR3H.out hru'.out hR4'.out hG4'.out
    have hpos := hsb4
    generalize (((w4.setCell ⟨w1.heap.size, 0, none⟩ (.int .i64 op)).setCell ⟨w1.heap.size, 1, none⟩ (.int .i64 0)).setCell ⟨w1.heap.size, 2, none⟩ (.slice (some ⟨w4.heap.size, 0, none⟩) 2 2)).alloc (.cells #[.int .i64 x.op, .int .i64 x.lay, .slice a n cc, .int .i64 y.op, .int .i64 y.lay, .slice ua un uc] 28) = w5 at *
    obtain ⟨m, l0, l1, l2, l3⟩ := hL5
    have hc : w5.cell? ⟨LB, 0, none⟩ = some (.map (some (m + 0))) := by simp [World.cell?, l0]
    have hlk : ∀ q, (Instr.lookup 81 (.map (some (m + 0))) (.int .u8 (t.headD 0).toNat) true).run Tryz.prog (w5.drewN q) = .ok (.tuple #[.int .i64 0, .bool false]) (w5.drewN q) := fun q => by
      have h := map_find 3 (t.headD 0) (w5.drewN q) (m + 0) (show _ = some (sgnO 3) from l1)
      rw [ht] at h
      exact h
    have hlb := lt_of_block l0
    obtain ⟨p0, p1, p2, pf0, pf1, pf2⟩ := three_cells hX5
    obtain ⟨q0, q1, q2, qf0, qf1, qf2⟩ := three_cells hQ5
    have hs5 := lt_of_block hX5
    have hq5 := lt_of_block hQ5
    have hXH := hid hX5
    have hvH5 := hid hv5
    have hRH5 := hid hR5
    have hGH5 := hid hG5
    clear k0 k1 k2 kf0 kf1 kf2 hX5 hQ5 hv5 hR5 hG5 l0 l1 l2 l3 hru' hR4' hG4' hX3H hQ3H hL3H hG3H hv3H hR3H
    go_wp2_with fail
    refine wp_region_quiet_lit (by kernel_rfl) (by kernel_rfl) ?_
    repeat (go_big_quiet_step (first | (go_at_call 50; exact Calls.quiet_of_same (first_any _ R o t hRH5.out))))
    try (refine wpQuiet_lookup rfl rfl _ hlk ?_; go_frame; repeat (go_big_quiet_step (fail)))
    refine wpQuiet_nil ?_
    rintro _ ⟨nr, rfl⟩
    go_wp2_with fail
    rw [rounds_succ]
    go_wp2_with fail
    obtain ⟨E, hv6, hR6, hG6⟩ := fin_three (W := w5.drewN nr) hXH.out (Rep.keep (A := fun k => w.heap.size + 1 ≤ k) (B := fun k => w.heap.size + 1 ≤ k) (w := w5) (w' := w5.drewN nr) (fun k hk _ => rfl) (fun k hk _ => hk) hvH5.out) (show Rdr (w5.drewN nr) R t o from hRH5.out) (grown_drewN hGH5.out nr) hl
    obtain ⟨c0, c1, c2, _, _, _⟩ := three_cells E
    generalize (((w5.drewN nr).setCell ⟨w.heap.size, 0, none⟩ (.int .i64 op)).setCell ⟨w.heap.size, 1, none⟩ (.int .i64 0)).setCell ⟨w.heap.size, 2, none⟩ (.slice (some ⟨w4.heap.size, 0, none⟩) 2 2) = w6 at *
    exact bodyPost_ret (v := .agg #[.int .i64 op, .int .i64 0, .slice (some ⟨w4.heap.size, 0, none⟩) 2 2]) (by simp [results, Tryz.results31, go_sem, c0, c1, c2]) rfl ⟨_, rfl, hv6, hR6, hG6⟩

end Go.Proofs.YtjijlkiilmbdnaaGreatDoor
