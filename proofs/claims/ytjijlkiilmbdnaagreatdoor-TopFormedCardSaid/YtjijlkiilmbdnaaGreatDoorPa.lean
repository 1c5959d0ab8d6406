/- The reader of formulas: first, skip. -/
import Derived.Test.YtjijlkiilmbdnaaGreatDoorOw
namespace Go.Proofs.YtjijlkiilmbdnaaGreatDoor
open Go Go.RowKit

/-- A reader in memory: what is left, and how many are open. -/
def Rdr (w : World) (R : Nat) (s : List UInt8) (o : Nat) : Prop := w.heap[R]? = some (.cells #[.string ⟨s.toArray⟩, .int .i64 o] 64 (0, 0))

theorem Rdr.lt {w : World} {R o : Nat} {s : List UInt8} (h : Rdr w R s o) : R < w.heap.size := lt_of_block h
theorem Rdr.str {w : World} {R o : Nat} {s : List UInt8} (h : Rdr w R s o) : w.cell? ⟨R, 0, none⟩ = some (.string ⟨s.toArray⟩) := by simp [World.cell?, show w.heap[R]? = _ from h]
theorem Rdr.opn {w : World} {R o : Nat} {s : List UInt8} (h : Rdr w R s o) : w.cell? ⟨R, 1, none⟩ = some (.int .i64 o) := by simp [World.cell?, show w.heap[R]? = _ from h]
theorem Rdr.fr0 {w : World} {R o : Nat} {s : List UInt8} (h : Rdr w R s o) : w.frozen? ⟨R, 0, none⟩ = false := by simp [World.frozen?, show w.heap[R]? = _ from h]
theorem Rdr.fr1 {w : World} {R o : Nat} {s : List UInt8} (h : Rdr w R s o) : w.frozen? ⟨R, 1, none⟩ = false := by simp [World.frozen?, show w.heap[R]? = _ from h]
theorem Rdr.below {w w' : World} {R o : Nat} {s : List UInt8} (h : Rdr w R s o) (hb : Below w.heap.size w w') : Rdr w' R s o := (hb.block _ h.lt).trans h
theorem Rdr.set {w : World} {R o : Nat} {s : List UInt8} (s' : List UInt8) (h : Rdr w R s o) : Rdr (w.setCell ⟨R, 0, none⟩ (.string ⟨s'.toArray⟩)) R s' o := block_set (i := 0) (.string ⟨s'.toArray⟩) h
theorem Rdr.seto {w : World} {R o : Nat} {s : List UInt8} (o' : Nat) (h : Rdr w R s o) : Rdr (w.setCell ⟨R, 1, none⟩ (.int .i64 o')) R s o' := block_set (i := 1) (.int .i64 o') h

theorem str_tail (c : UInt8) (s : List UInt8) : (⟨(c :: s).toArray⟩ : ByteArray).extract 1 (s.length + 1) = ⟨s.toArray⟩ := by
  apply ByteArray.ext
  simp [ByteArray.data_extract]

theorem first_any (w : World) (R o : Nat) (s : List UInt8) (h : Rdr w R s o) :
    Calls Tryz.prog 50 #[.pointer (some ⟨R, 0, none⟩)] w fun e w' => e = .returned (.int .u8 (s.headD 0).toNat) ∧ w' = w := by
  have h0 := h.str
  have hl := h.lt
  clear h
  cases s with
  | nil =>
    go_enter Tryz.func50, Tryz.ntmps50
    go_wp2_with fail
    go_ret
    exact ⟨rfl, rfl⟩
  | cons c s =>
    go_enter Tryz.func50, Tryz.ntmps50
    go_wp2_with fail
    go_ret
    exact ⟨rfl, rfl⟩

theorem skip_any (w : World) (R o : Nat) (c : UInt8) (s : List UInt8) (h : Rdr w R (c :: s) o) :
    Calls Tryz.prog 51 #[.pointer (some ⟨R, 0, none⟩)] w fun e w' => e = .returned (.tuple #[]) ∧ w' = w.setCell ⟨R, 0, none⟩ (.string ⟨s.toArray⟩) := by
  have h0 := h.str
  have hl := h.lt
  have hf := h.fr0
  clear h
  go_enter Tryz.func51, Tryz.ntmps51
  go_wp2_with fail
  go_end0
  exact ⟨rfl, by rw [str_tail]⟩

end Go.Proofs.YtjijlkiilmbdnaaGreatDoor
