/- formed: not. -/
import Derived.Test.YtjijlkiilmbdnaaGreatDoorFd
namespace Go.Proofs.YtjijlkiilmbdnaaGreatDoor
open Go Go.RowKit

set_option maxRecDepth 100000 in
set_option maxHeartbeats 1000000 in
theorem formed_not (w : World) (p B : Nat) (hBw : B ≤ w.heap.size) (h : Value) (bs : List UInt8) (hlen : bs.length ≤ 80) (hsl : SlB w p B h bs) (hp : w.heap[p]? = some (.cells #[h] 22 (0, 0)))
    (kk : Nat) (hkk : Hid (hd bs = kk)) (hk256 : kk < 256) (d : Nat) (hdle : d ≤ 5) (ih : FormedSaid d) (hdd : kk % 9 = 1) :
    Calls Tryz.prog 5 #[.pointer (some ⟨p, 0, none⟩), .int .i64 ((d : Int) + 1)] w (FormedPost w p B (.not (mk d bs.tail).1, (mk d bs.tail).2)) := by
  obtain ⟨a0, c0, rfl⟩ := hsl.form
  have hsl' := hid hsl
  have hp' := hid hp
  have hp1 := cell_of_one hp
  have hp2 := free_of_one hp
  have hlt := lt_of_block hp
  clear hp hsl
  go_enter Tryz.func5, Tryz.ntmps5
  go_upto_if 21 with fail
  go_cut [7] (fun s7 wc => s7 = .int .i64 kk ∧ Taken w p B bs wc)
  case first =>
    have hsl := hsl'.out
    clear hsl'
    cases bs with
    | nil =>
      clear hsl
      go_wp2_with fail
      go_meet
      exact ⟨by rw [← hkk.out]; rfl, taken_nil rfl hp'.out⟩
    | cons b bs =>
      obtain ⟨k, o, c, hh, hc, hc', hk, hkB, hcell⟩ := hsl
      simp only [Value.slice.injEq, true_and] at hh
      obtain ⟨rfl, rfl⟩ := hh
      have h0 : w.cell? ⟨k, o, none⟩ = some (.int .u8 b.toNat) := hcell 0 b rfl
      have hltk := World.block_lt_of_cell? w _ h0
      have hlen' : bs.length + 1 ≤ 80 := hlen
      have hc2 : bs.length + 1 ≤ c0 := hc
      have hb : b.toNat < 256 := b.toNat_lt
      have hpos : 0 < (b :: bs).length := Nat.succ_pos _
      have hcell' := hid hcell
      have hcc := hid hc
      clear hcell hc hlen
      go_wp2_with fail
      · go_meet
        exact ⟨by rw [← hkk.out]; rfl, taken_cons hkB hcc.out hc' hk hcell'.out hp'.out (.inr ⟨List.eq_nil_of_length_eq_zero (by omega), _, _, by rw [List.eq_nil_of_length_eq_zero (l := bs) (by omega)]; rfl⟩)⟩
      · go_meet
        exact ⟨by rw [← hkk.out]; rfl, taken_cons hkB hcc.out hc' hk hcell'.out hp'.out (.inl rfl)⟩
  case rest =>
    obtain ⟨rfl, h', hp3, hsl3, hg3, ht3, hz3⟩ := hcut
    have ht0 : wc.cell? ⟨w.heap.size, 0, none⟩ = some (.int .i64 0) := by simp [World.cell?, ht3]
    have ht1 : wc.cell? ⟨w.heap.size, 1, none⟩ = some (.int .i64 0) := by simp [World.cell?, ht3]
    have ht2 : wc.cell? ⟨w.heap.size, 2, none⟩ = some (.slice none 0 0) := by simp [World.cell?, ht3]
    have htf0 : wc.frozen? ⟨w.heap.size, 0, none⟩ = false := by simp [World.frozen?, ht3]
    have htf1 : wc.frozen? ⟨w.heap.size, 1, none⟩ = false := by simp [World.frozen?, ht3]
    have htf2 : wc.frozen? ⟨w.heap.size, 2, none⟩ = false := by simp [World.frozen?, ht3]
    have hp3' := hid hp3
    have hsl3' := hid hsl3
    have ht3' := hid ht3
    have hz3' := hid hz3
    have hz4 : w.heap.size < wc.heap.size := by omega
    clear hp3 hsl3 ht3 hz3 hsl' hp' hp1
    have hb1 : (((d : Int) + 1) == 0) = false := by simp; omega
    have hb2 : decide ((5 : Int) < (kk : Int) % 9) = false := by simp; omega
    have hb3 : (((kk : Int) % 9) == 0) = false := by simp; omega
    have hb4 : (((kk : Int) % 9) == 1) = true := by simp; omega
    have hdd' := hid hdd
    clear hdd
    go_wp2_with fail
    have htx := mk_text d hdle bs.tail
    refine (ih wc p B h' bs.tail (by simp; omega) (by omega) hsl3'.out hp3'.out).mono ?_
    rintro e w1 ⟨v1, c1, h1, rfl, hr1, hc1, hs1, hp1, hg1⟩
    obtain ⟨va, vn, vc, rfl⟩ := hr1.agg
    obtain ⟨caps, rfl⟩ := hc1.form
    have hr1' := hid hr1
    have hc1' := hid hc1
    have hs1' := hid hs1
    have hp1' := hid hp1
    have hpw : p ≠ w.heap.size := by omega
    have hz1 := hg1.size
    have kt : w1.heap[w.heap.size]? = some (.cells #[.int .i64 0, .int .i64 0, .slice none 0 0] 28 (0, 0)) := (hg1.block _ (by omega) (by simp; omega)).trans ht3'.out
    have kt0 : w1.cell? ⟨w.heap.size, 0, none⟩ = some (.int .i64 0) := by simp [World.cell?, kt]
    have kt1 : w1.cell? ⟨w.heap.size, 1, none⟩ = some (.int .i64 0) := by simp [World.cell?, kt]
    have kt2 : w1.cell? ⟨w.heap.size, 2, none⟩ = some (.slice none 0 0) := by simp [World.cell?, kt]
    have ktf0 : w1.frozen? ⟨w.heap.size, 0, none⟩ = false := by simp [World.frozen?, kt]
    have ktf1 : w1.frozen? ⟨w.heap.size, 1, none⟩ = false := by simp [World.frozen?, kt]
    have ktf2 : w1.frozen? ⟨w.heap.size, 2, none⟩ = false := by simp [World.frozen?, kt]
    have hz5 : w.heap.size < w1.heap.size := by omega
    have hz6 : w.heap.size < w1.heap.size + 1 := by omega
    have hz7 : w.heap.size < w1.heap.size + 1 + 1 := by omega
    clear hr1 hc1 hs1 hp1 kt ht0 ht1 ht2 htf0 htf1 htf2
    go_wp2_with fail
    refine bodyPost_ret (v := .tuple #[.agg #[.int .i64 2, .int .i64 0, .slice (some ⟨w1.heap.size + 1 + 1, 0, none⟩) 1 1], .string ⟨(Fm.not (mk d bs.tail).1).text.toArray⟩, .func (.func 21) #[] #[.pointer (some ⟨w1.heap.size + 1, 0, none⟩)]]) ?_ rfl ?_
    · simp [results, Tryz.results5, go_sem, kt0, kt1, kt2, hz5, hz6, hz7]
      exact Value.string.inj (str_not _)
    · exact not_done hBw hlt hg3 hz3'.out hr1'.out hc1'.out hs1'.out hp1'.out hg1 _ _ _

end Go.Proofs.YtjijlkiilmbdnaaGreatDoor
