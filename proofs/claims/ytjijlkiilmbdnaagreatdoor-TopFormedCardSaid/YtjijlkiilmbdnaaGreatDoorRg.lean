/- A range over a function whose rounds all go on: a law for the plain walk. -/
import Derived.Test.YtjijlkiilmbdnaaGreatDoorWa
import Derived.RangeFuncLeaves
import Derived.RangeFuncOwn
namespace Go.Proofs.YtjijlkiilmbdnaaGreatDoor
open Go Go.RowKit

/-- All objects of some kinds that lay are as they were. -/
structure KeepO (q : Obj → Prop) (w w' : World) : Prop where
  os : w'.os = w.os
  tape : w'.tape = w.tape
  output : w'.output = w.output
  size : w.heap.size ≤ w'.heap.size
  block : ∀ (k : Nat) (o : Obj), w.heap[k]? = some o → q o → w'.heap[k]? = some o

theorem KeepO.refl (q : Obj → Prop) (w : World) : KeepO q w w := ⟨rfl, rfl, rfl, Nat.le_refl _, fun _ _ h _ => h⟩
theorem KeepO.trans {q : Obj → Prop} {a b c : World} (h : KeepO q a b) (k : KeepO q b c) : KeepO q a c :=
  ⟨k.os.trans h.os, k.tape.trans h.tape, k.output.trans h.output, Nat.le_trans h.size k.size, fun i o ho hq => k.block i o (h.block i o ho hq) hq⟩
theorem KeepO.mono {q q' : Obj → Prop} {a b : World} (h : KeepO q a b) (hm : ∀ u, q' u → q u) : KeepO q' a b :=
  ⟨h.os, h.tape, h.output, h.size, fun i o ho hq => h.block i o ho (hm o hq)⟩
theorem KeepO.below {q : Obj → Prop} {a b : World} (h : Below a.heap.size a b) : KeepO q a b :=
  ⟨h.os, h.tape, h.output, h.size, fun i o ho _ => (h.block i (lt_of_block ho)).trans ho⟩
theorem KeepO.grown {q : Obj → Prop} {a b : World} {l : Nat} {u : Obj} (h : a.grownBy b (some l)) (hl : a.heap[l]? = some u) (hq : ¬ q u) : KeepO q a b :=
  ⟨h.os, h.tape, h.output, h.size, fun i v hu hqu => by
    by_cases e : i = l
    · subst e; rw [hl] at hu; cases hu; exact absurd hqu hq
    · exact (h.block i (lt_of_block hu) (fun e2 => e (by cases e2; rfl))).trans hu⟩

/-- A block of formulas. -/
def IsFm (o : Obj) : Prop := ∃ c m, o = .cells c 28 m
def TyFm (w : World) (k : Nat) : Prop := ∃ o, w.heap[k]? = some o ∧ IsFm o

theorem KeepO.ty {w w' : World} (h : KeepO IsFm w w') {k : Nat} (hk : TyFm w k) : TyFm w' k ∧ w'.heap[k]? = w.heap[k]? := by
  obtain ⟨o, ho, hq⟩ := hk
  have h1 := h.block k o ho hq
  exact ⟨⟨o, h1, hq⟩, h1.trans ho.symm⟩

theorem TyFm.step {w w' : World} {g k : Nat} (h : w.grownBy w' (some g)) (hg : k ≠ g ∨ TyFm w' g) (hk : TyFm w k) : TyFm w' k := by
  by_cases e : k = g
  · subst e; exact hg.resolve_left (fun h => h rfl)
  · obtain ⟨o, ho, hq⟩ := hk
    exact ⟨o, (h.block k (lt_of_block ho) (fun e2 => e (by cases e2; rfl))).trans ho, hq⟩
theorem TyFm.below {w w' : World} {k : Nat} (h : Below w.heap.size w w') (hk : TyFm w k) : TyFm w' k := by
  obtain ⟨o, ho, hq⟩ := hk
  exact ⟨o, (h.block k (lt_of_block ho)).trans ho, hq⟩
theorem TyFm.of {w : World} {k : Nat} {c : Array Value} {m : Nat × Nat} (h : w.heap[k]? = some (.cells c 28 m)) : TyFm w k := ⟨_, h, _, _, rfl⟩

/-- A block known whole, three cells of it. -/
theorem three_cells {w : World} {b : Nat} {x y z : Value} {t : Nat} (h : w.heap[b]? = some (.cells #[x, y, z] t (0, 0))) :
    w.cell? ⟨b, 0, none⟩ = some x ∧ w.cell? ⟨b, 1, none⟩ = some y ∧ w.cell? ⟨b, 2, none⟩ = some z ∧ w.frozen? ⟨b, 0, none⟩ = false ∧ w.frozen? ⟨b, 1, none⟩ = false ∧ w.frozen? ⟨b, 2, none⟩ = false := by
  refine ⟨?_, ?_, ?_, ?_, ?_, ?_⟩ <;> simp [World.cell?, World.frozen?, h]

theorem grown_put (w : World) (l : Nat) (o : Obj) : w.grownBy (w.putObj l o) (some l) :=
  ⟨rfl, rfl, rfl, by simp, fun k _ hne => World.putObj_heap_other (fun e => hne (by rw [e]))⟩

/-- A range over a function whose rounds all go on. -/
theorem range_all {β : Type} {P : Program} {g : Operand} {ps : Array Tmp} {assign body : Code} {Q : Exit → Act → World → Prop} {a : Act} {w : World} {gf : Nat} {lb : Array Value}
    (hg : a.eval g = .func (.func gf) #[] lb) (eg : ∀ args w, (callFunc gf args).run P w = .ok (.enter gf args) w)
    (T : List β) (E : β → Array Value → World → Prop) (hE : ∀ x args V, E x args V → args.size = ps.size) (I : List β → World → Prop) (q : Obj → Prop) (hq : ∀ o, q o → o.isCells = true)
    (hI : ∀ pre V V', I pre V → V.grownBy V' (some (w.heap.size + 1)) → I pre V') (h0 : I [] ((w.alloc (.deferred (some []))).alloc (.loop default)))
    (hseq : ∀ (J : List β → World → Prop) (W : World), Below w.heap.size w W → W.heap.size = w.heap.size + 2 → (∀ pre V V', J pre V → Below V.heap.size V V' → J pre V') →
      (∀ pre x post args V, T = pre ++ x :: post → E x args V → J pre V → YieldAt Fence.wide 0 P (w.heap.size + 1) args V fun e V' => e = .returned (.bool true) ∧ J (pre ++ [x]) V' ∧ KeepO q V V') →
      J [] W → CallsIn Fence.wide 0 P gf (#[.func (.yield (w.heap.size + 1)) #[] #[]] ++ lb) W fun e V' => (∃ v, e = .returned v) ∧ J T V')
    (hround : ∀ pre x post args V, T = pre ++ x :: post → E x args V → I pre V → w.heap.size + 2 ≤ V.heap.size →
      assign.wpIn (Fence.wide.inRound (w.heap.size + 1)) 0 P (Exit.then (fun a1 V1 => Below V.heap.size V V1 ∧ ∀ V2, V1.grownBy V2 (some (w.heap.size + 1)) → V2.heap.size = V1.heap.size →
        body.wpIn (Fence.wide.inRound (w.heap.size + 1)) 0 P (fun e _ V3 => e = .normal ∧ I (pre ++ [x]) V3 ∧ KeepO (fun o => q o ∨ o.isCells = false) V2 V3) a1 V2) (fun _ _ _ => False))
        { tmps := (ps.zip args).foldl (fun t (p, v) => t.setIfInBounds p v) a.tmps, defers := [] } V)
    (hdone : ∀ V, I T V → V.heap[w.heap.size]? = some (.deferred (some [])) → Q .normal { a with defers := { target := .collected w.heap.size, args := #[] } :: a.defers } V) :
    (Code.rangeFunc g ps assign body).wp P Q a w := by
  refine (wpIn_wide (n := 0)).1 (wpIn_rangeFunc ?_)
  intro fn hfn
  obtain ⟨rec, hrec⟩ : ∃ rec : LoopState → Option Code → Loop, rec = fun st pe => { state := st, pending := pe, fn, tmps := a.tmps, params := ps, assign, body, defers := w.heap.size } := ⟨_, rfl⟩
  have hb0 : Below w.heap.size w ((w.alloc (.deferred (some []))).alloc (.loop (rec .ready none))) := ((Below.refl _ _).alloc (Nat.le_refl _) _).alloc (by simp) _
  have hL : ((w.alloc (.deferred (some []))).alloc (.loop (rec .ready none))).heap[w.heap.size + 1]? = some (.loop (rec .ready none)) := by
    have := World.alloc_heap_new (w.alloc (.deferred (some []))) (.loop (rec .ready none)); rwa [World.size_alloc] at this
  have hD : ((w.alloc (.deferred (some []))).alloc (.loop (rec .ready none))).heap[w.heap.size]? = some (.deferred (some [])) :=
    (Below.heap_alloc _ _ _ (by simp)).trans (World.alloc_heap_new w _)
  have hI0 : I [] ((w.alloc (.deferred (some []))).alloc (.loop (rec .ready none))) := by
    refine hI _ _ _ h0 ⟨rfl, rfl, rfl, by simp, fun k hk hne => ?_⟩
    have hk2 : k < (w.alloc (.deferred (some []))).heap.size := by simp at hk ⊢; have : k ≠ w.heap.size + 1 := fun e => hne (by rw [e]); omega
    rw [Below.heap_alloc _ _ _ hk2, Below.heap_alloc _ _ _ hk2]
  refine ⟨w.heap.size + 1, [{ target := .collected w.heap.size, args := #[] }], (w.alloc (.deferred (some []))).alloc (.loop (rec .ready none)), { target := .fn (.func gf) lb, args := #[.func (.yield (w.heap.size + 1)) #[] #[]] }, (w.alloc (.deferred (some []))).alloc (.loop (rec .ready none)), gf,
    #[.func (.yield (w.heap.size + 1)) #[] #[]] ++ lb, (w.alloc (.deferred (some []))).alloc (.loop (rec .ready none)), ?_, ?_, ?_, ?_, ?_, ?_⟩
  · rw [hrec]; exact run_enterLoop_outer _ _ _ _ _
  · simp only [resolve, hg]
    simp [go_sem]
  · intro f' _; trivial
  · simp [invoke, go_sem, eg]
  · intro h; simp [Fence.wide] at h
  · refine (hseq (fun pre V => I pre V ∧ V.heap[w.heap.size + 1]? = some (.loop (rec .ready none)) ∧ V.heap[w.heap.size]? = some (.deferred (some []))) _ hb0 (by simp) ?_ ?_ ⟨hI0, hL, hD⟩).mono ?_
    · rintro pre V V' ⟨hi, hl, hd⟩ hb
      have h1 := (Array.getElem?_eq_some_iff.1 hl).1
      exact ⟨hI _ _ _ hi ⟨hb.os, hb.tape, hb.output, hb.size, fun k hk _ => hb.block k hk⟩, (hb.block _ h1).trans hl, (hb.block _ (by omega)).trans hd⟩
    · rintro pre x post args V hT hx ⟨hi, hl, hd⟩
      have hlt : w.heap.size + 1 < V.heap.size := (Array.getElem?_eq_some_iff.1 hl).1
      have hy := run_yield (P := P) (args := args) hl (by rw [hrec]; exact hE x args V hx)
      rw [hrec] at hy
      refine ⟨fn, _, assign, body, hy, roundIn_of_wpIn hfn ?_⟩
      refine wpIn_mono (hround pre x post args V hT hx hi (by omega)) ?_
      rintro e a1 V1 hp
      cases e with
      | normal =>
        obtain ⟨hb, hbody⟩ := hp
        have hl1 : V1.heap[w.heap.size + 1]? = some (.loop (rec .ready none)) := (hb.block _ hlt).trans hl
        have hlt1 : w.heap.size + 1 < V1.heap.size := (Array.getElem?_eq_some_iff.1 hl1).1
        refine ⟨_, run_beginRound hl1 (by rw [hrec]), wpIn_mono (hbody _ (grown_put _ _ _) (by simp)) ?_⟩
        rintro e a3 V3 ⟨rfl, hi3, hk3⟩
        have hl2 : (V1.putObj (w.heap.size + 1) (.loop { rec .ready none with state := .busy })).heap[w.heap.size + 1]? = some (.loop { rec .ready none with state := .busy }) := World.putObj_heap_same hlt1
        have hl3 : V3.heap[w.heap.size + 1]? = some (.loop { rec .ready none with state := .busy }) := hk3.block _ _ hl2 (.inr rfl)
        have hd3 : V3.heap[w.heap.size]? = some (.deferred (some [])) := hk3.block _ _ ((World.putObj_heap_other (by omega)).trans ((hb.block _ (by omega)).trans hd)) (.inr rfl)
        have hend := run_endRound (P := P) none hl3
        rw [hrec] at hend hl3
        refine ⟨_, _, hend, rfl, ⟨hI _ _ _ hi3 (grown_put _ _ _), by rw [hrec]; exact World.putObj_heap_same (Array.getElem?_eq_some_iff.1 hl3).1, (World.putObj_heap_other (by omega)).trans hd3⟩, ?_⟩
        have hnq : ∀ r : Loop, ¬ q (.loop r) := fun r h => by have := hq _ h; cases this
        exact (((KeepO.below hb).trans (KeepO.grown (grown_put _ _ _) hl1 (hnq _))).trans (hk3.mono (fun o h => .inl h))).trans (KeepO.grown (grown_put _ _ _) hl3 (hnq _))
      | exit id => exact hp.elim
      | goto t => exact hp.elim
      | ret => exact hp.elim
      | panic ch => exact hp.elim
      | outgrown => exact hp.elim
    · rintro e V2 ⟨⟨v, rfl⟩, hi, hl, hd⟩
      refine ⟨none, _, by have := run_endLoop (P := P) hl (by rw [hrec]; simp); rw [hrec] at this; exact this, hdone _ (hI _ _ _ hi (grown_put _ _ _)) ((World.putObj_heap_other (by omega)).trans hd)⟩

end Go.Proofs.YtjijlkiilmbdnaaGreatDoor
