/- levels: the signs of the three levels. -/
import Derived.Test.YtjijlkiilmbdnaaGreatDoorPa
import Derived.WideMake
namespace Go.Proofs.YtjijlkiilmbdnaaGreatDoor
open Go Go.RowKit

/-- A map's entry. -/
def ent (k v : Int) (n : Nat) : MapEntry := { key := .int .u8 k, val := .int .i64 v, born := n }
/-- The maps, from the last level up. -/
def sgn1 : Obj := .map #[ent 38 3 0, ent 45 4 1] 2
def sgn2 : Obj := .map #[ent 94 5 0] 1
def sgn3 : Obj := .map #[ent 124 6 0] 1

theorem mapu (t b : Nat) (es : Array MapEntry) (clock : Nat) (k v : Int) (w : World) (kt et : Nat) (hm : Tryz.prog.underlying t = some (.map kt et)) (hk : Tryz.prog.underlying kt = some (.int .u8)) (hb : w.heap[b]? = some (.map es clock))
    (hf : Instr.findNow (.int .u8) (.int .u8 k) es.toList 0 = some none) :
    (Instr.mapUpdate t (.map (some b)) (.int .u8 k) (.int .i64 v)).run Tryz.prog w = .ok () (w.putObj b (.map (es.push (ent k v clock)) (clock + 1))) := by
  have hc : (Instr.checkKey false 10000 kt (.int .u8 k)).run Tryz.prog w = .ok () w := MapKept.run_checkKey (k := .int .u8 k) hk (by simp [MapKept.IsKey]) false 9999
  simp [Instr.mapUpdate, run_underlying hm, MapKept.run_getObj_map hb, hc, MapKept.run_findKey hk hf, MapKept.run_setObj_map _ hb, Result.andThen, World.putObj, ent]

theorem put_new (w : World) (o o' : Obj) : (w.alloc o).putObj w.heap.size o' = w.alloc o' := by
  show ({ w with heap := (w.heap.push o).setIfInBounds w.heap.size o' } : World) = { w with heap := w.heap.push o' }
  congr 1
  apply Array.ext_getElem?
  intro i
  rw [Array.getElem?_setIfInBounds]
  by_cases h : w.heap.size = i
  · subst h; simp
  · simp [h, Array.getElem?_push, Ne.symm h]

theorem mapu_new (k v : Int) (w : World) :
    (Instr.mapUpdate 81 (.map (some w.heap.size)) (.int .u8 k) (.int .i64 v)).run Tryz.prog (w.alloc (.map #[] 0)) = .ok () (w.alloc (.map #[ent k v 0] 1)) := by
  rw [mapu _ _ #[] 0 k v _ _ _ Tryz.underlying81 Tryz.underlying5 (heap_alloc_new w _) rfl, put_new]
  rfl

theorem mapu_two (w : World) :
    (Instr.mapUpdate 81 (.map (some w.heap.size)) (.int .u8 45) (.int .i64 4)).run Tryz.prog (w.alloc (.map #[ent 38 3 0] 1)) = .ok () (w.alloc sgn1) := by
  rw [mapu _ _ #[ent 38 3 0] 1 45 4 _ _ _ Tryz.underlying81 Tryz.underlying5 (heap_alloc_new w _) rfl, put_new]
  rfl

set_option maxRecDepth 100000 in
theorem levels_any (w : World) :
    Calls Tryz.prog 32 #[] w fun e w' => e = .returned (.slice (some ⟨w.heap.size + 3, 0, none⟩) 3 3) ∧
      w' = (((w.alloc sgn3).alloc sgn2).alloc sgn1).alloc (.cells #[.map (some w.heap.size), .map (some (w.heap.size + 1)), .map (some (w.heap.size + 2))] 81) := by
  have e1 := mapu_new 124 6 w
  have e2 := mapu_new 94 5 (w.alloc sgn3)
  have e3 := mapu_new 38 3 ((w.alloc sgn3).alloc sgn2)
  have e4 := mapu_two ((w.alloc sgn3).alloc sgn2)
  rw [show (Obj.map #[ent 124 6 0] 1) = sgn3 from rfl] at e1
  rw [show (Obj.map #[ent 94 5 0] 1) = sgn2 from rfl] at e2
  simp only [World.size_alloc] at e2 e3 e4
  go_enter Tryz.func32, Tryz.ntmps32
  go_wp2_with (rw [run_makeMap])
  go_ret
  exact ⟨rfl, rfl⟩

/-- What a level's map says of a byte. -/
def opAt (l : Nat) (c : UInt8) : Option Nat :=
  if l = 1 then (if c = 38 then some 3 else if c = 45 then some 4 else none) else if l = 2 then (if c = 94 then some 5 else none) else (if c = 124 then some 6 else none)

def sgnO (l : Nat) : Obj := if l = 1 then sgn1 else if l = 2 then sgn2 else sgn3

theorem find_ent (k v : Int) (c : Int) (n i : Nat) (l : List MapEntry) : Instr.findNow (.int .u8) (.int .u8 c) (ent k v n :: l) i = if c == k then some (some (i, .int .i64 v)) else Instr.findNow (.int .u8) (.int .u8 c) l (i + 1) := by
  simp only [Instr.findNow, Instr.sameNow, ent]
  by_cases h : (c == k) = true
  · simp [h]
  · simp [h]

theorem find_nil (c : Int) (i : Nat) : Instr.findNow (.int .u8) (.int .u8 c) [] i = some none := rfl

def lookV (r : Option (Nat × Value)) : Value := match r with | some (_, v) => .tuple #[v, .bool true] | none => .tuple #[.int .i64 0, .bool false]

theorem map_look (es : Array MapEntry) (clock : Nat) (k : Int) (r : Option (Nat × Value)) (w : World) (b : Nat) (hb : w.heap[b]? = some (.map es clock)) (hf : Instr.findNow (.int .u8) (.int .u8 k) es.toList 0 = some r) :
    (Instr.lookup 81 (.map (some b)) (.int .u8 k) true).run Tryz.prog w = .ok (lookV r) w := by
  have hm : Tryz.prog.underlying 81 = _ := Tryz.underlying81
  have hk : Tryz.prog.underlying 5 = some (.int .u8) := Tryz.underlying5
  have hz : (zeroValue 25).run Tryz.prog w = .ok (.int .i64 0) w := by kernel_rfl
  have hc : (Instr.checkKey es.isEmpty 10000 5 (.int .u8 k)).run Tryz.prog w = .ok () w := MapKept.run_checkKey (k := .int .u8 k) hk (by simp [MapKept.IsKey]) _ 9999
  have hfk := MapKept.run_findKey (P := Tryz.prog) (w := w) hk hf
  cases r with
  | none => simp [Instr.lookup, run_underlying hm, MapKept.run_getObj_map hb, hc, hfk, Result.andThen, hz, lookV]
  | some p => obtain ⟨i, v⟩ := p; simp [Instr.lookup, run_underlying hm, MapKept.run_getObj_map hb, hc, hfk, Result.andThen, lookV]

theorem map_find (l : Nat) (c : UInt8) (w : World) (b : Nat) (hb : w.heap[b]? = some (sgnO l)) :
    (Instr.lookup 81 (.map (some b)) (.int .u8 c.toNat) true).run Tryz.prog w = .ok (match opAt l c with | some o => .tuple #[.int .i64 (o : Int), .bool true] | none => .tuple #[.int .i64 0, .bool false]) w := by
  have hcc : ∀ m : Nat, m < 256 → (((c.toNat : Int) == (m : Int)) = decide (c = UInt8.ofNat m)) := by
    intro m hm
    have h1 : (UInt8.ofNat m).toNat = m := by simp; omega
    by_cases h : c = UInt8.ofNat m
    · subst h; simp [h1]
    · have : c.toNat ≠ m := fun e => h (UInt8.toNat_inj.1 (by rw [h1]; exact e))
      simp [h]; omega
  have c38 : ((c.toNat : Int) == 38) = decide (c = 38) := hcc 38 (by omega)
  have c45 : ((c.toNat : Int) == 45) = decide (c = 45) := hcc 45 (by omega)
  have c94 : ((c.toNat : Int) == 94) = decide (c = 94) := hcc 94 (by omega)
  have c124 : ((c.toNat : Int) == 124) = decide (c = 124) := hcc 124 (by omega)
  clear hcc
  unfold sgnO at hb
  unfold opAt
  by_cases l1 : l = 1
  · rw [if_pos l1] at hb
    rw [if_pos l1]
    refine (map_look _ _ _ (if c = 38 then some (0, .int .i64 3) else if c = 45 then some (1, .int .i64 4) else none) w b hb ?_).trans ?_
    · show Instr.findNow (.int .u8) (.int .u8 c.toNat) [ent 38 3 0, ent 45 4 1] 0 = _
      rw [find_ent, find_ent, find_nil, c38, c45]
      by_cases h1 : c = 38
      · simp [h1]
      · by_cases h2 : c = 45 <;> simp [h1, h2]
    · unfold lookV
      by_cases h1 : c = 38
      · simp [h1]
      · by_cases h2 : c = 45 <;> simp [h1, h2]
  · rw [if_neg l1] at hb
    rw [if_neg l1]
    by_cases l2 : l = 2
    · rw [if_pos l2] at hb
      rw [if_pos l2]
      refine (map_look _ _ _ (if c = 94 then some (0, .int .i64 5) else none) w b hb ?_).trans ?_
      · show Instr.findNow (.int .u8) (.int .u8 c.toNat) [ent 94 5 0] 0 = _
        rw [find_ent, find_nil, c94]
        by_cases h1 : c = 94 <;> simp [h1]
      · unfold lookV
        by_cases h1 : c = 94 <;> simp [h1]
    · rw [if_neg l2] at hb
      rw [if_neg l2]
      refine (map_look _ _ _ (if c = 124 then some (0, .int .i64 6) else none) w b hb ?_).trans ?_
      · show Instr.findNow (.int .u8) (.int .u8 c.toNat) [ent 124 6 0] 0 = _
        rw [find_ent, find_nil, c124]
        by_cases h1 : c = 124 <;> simp [h1]
      · unfold lookV
        by_cases h1 : c = 124 <;> simp [h1]

end Go.Proofs.YtjijlkiilmbdnaaGreatDoor
