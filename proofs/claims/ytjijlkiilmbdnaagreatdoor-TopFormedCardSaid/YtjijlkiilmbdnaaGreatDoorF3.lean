/- formed: what joins two. -/
import Derived.Test.YtjijlkiilmbdnaaGreatDoorFd
namespace Go.Proofs.YtjijlkiilmbdnaaGreatDoor
open Go Go.RowKit

set_option maxRecDepth 100000 in
set_option maxHeartbeats 2000000 in
theorem formed_and (w : World) (p B : Nat) (hBw : B ≤ w.heap.size) (h : Value) (bs : List UInt8) (hlen : bs.length ≤ 80) (hsl : SlB w p B h bs) (hp : w.heap[p]? = some (.cells #[h] 22 (0, 0)))
    (kk : Nat) (hkk : Hid (hd bs = kk)) (hk256 : kk < 256) (d : Nat) (hdle : d ≤ 5) (ih : FormedSaid d) (hdd : kk % 9 = 2) :
    Calls Tryz.prog 5 #[.pointer (some ⟨p, 0, none⟩), .int .i64 ((d : Int) + 1)] w (FormedPost w p B (.bin 3 (mk d bs.tail).1 (mk d (mk d bs.tail).2).1, (mk d (mk d bs.tail).2).2)) := by
  obtain ⟨a0, c0, rfl⟩ := hsl.form
  have hsl' := hid hsl
  have hp' := hid hp
  have hp1 := cell_of_one hp
  have hp2 := free_of_one hp
  have hlt := lt_of_block hp
  clear hp hsl
  go_enter Tryz.func5, Tryz.ntmps5
  go_upto_if 21 with fail
  go_cut [7] (fun s7 wc => s7 = .int .i64 kk ∧ Taken w p B bs wc)
  case first =>
    have hsl := hsl'.out
    clear hsl'
    cases bs with
    | nil =>
      clear hsl
      go_wp2_with fail
      go_meet
      exact ⟨by rw [← hkk.out]; rfl, taken_nil rfl hp'.out⟩
    | cons b bs =>
      obtain ⟨k, o, c, hh, hc, hc', hk, hkB, hcell⟩ := hsl
      simp only [Value.slice.injEq, true_and] at hh
      obtain ⟨rfl, rfl⟩ := hh
      have h0 : w.cell? ⟨k, o, none⟩ = some (.int .u8 b.toNat) := hcell 0 b rfl
      have hltk := World.block_lt_of_cell? w _ h0
      have hlen' : bs.length + 1 ≤ 80 := hlen
      have hc2 : bs.length + 1 ≤ c0 := hc
      have hb : b.toNat < 256 := b.toNat_lt
      have hpos : 0 < (b :: bs).length := Nat.succ_pos _
      have hcell' := hid hcell
      have hcc := hid hc
      clear hcell hc hlen
      go_wp2_with fail
      · go_meet
        exact ⟨by rw [← hkk.out]; rfl, taken_cons hkB hcc.out hc' hk hcell'.out hp'.out (.inr ⟨List.eq_nil_of_length_eq_zero (by omega), _, _, by rw [List.eq_nil_of_length_eq_zero (l := bs) (by omega)]; rfl⟩)⟩
      · go_meet
        exact ⟨by rw [← hkk.out]; rfl, taken_cons hkB hcc.out hc' hk hcell'.out hp'.out (.inl rfl)⟩
  case rest =>
    obtain ⟨rfl, h', hp3, hsl3, hg3, ht3, hz3⟩ := hcut
    have ht0 : wc.cell? ⟨w.heap.size, 0, none⟩ = some (.int .i64 0) := by simp [World.cell?, ht3]
    have ht1 : wc.cell? ⟨w.heap.size, 1, none⟩ = some (.int .i64 0) := by simp [World.cell?, ht3]
    have ht2 : wc.cell? ⟨w.heap.size, 2, none⟩ = some (.slice none 0 0) := by simp [World.cell?, ht3]
    have htf0 : wc.frozen? ⟨w.heap.size, 0, none⟩ = false := by simp [World.frozen?, ht3]
    have htf1 : wc.frozen? ⟨w.heap.size, 1, none⟩ = false := by simp [World.frozen?, ht3]
    have htf2 : wc.frozen? ⟨w.heap.size, 2, none⟩ = false := by simp [World.frozen?, ht3]
    have hp3' := hid hp3
    have hsl3' := hid hsl3
    have ht3' := hid ht3
    have hz3' := hid hz3
    have hz4 : w.heap.size < wc.heap.size := by omega
    clear hp3 hsl3 ht3 hz3 hsl' hp' hp1
    have hb1 : (((d : Int) + 1) == 0) = false := by simp; omega
    have hb2 : decide ((5 : Int) < (kk : Int) % 9) = false := by simp; omega
    have hb3 : (((kk : Int) % 9) == 0) = false := by simp; omega
    have hb4 : (((kk : Int) % 9) == 1) = false := by simp; omega
    have hb5 : (((kk : Int) % 9) == 2) = true := by simp; omega
    have hb6 : (((kk : Int) % 9) == 3) = false := by simp; omega
    have hb7 : (((kk : Int) % 9) == 4) = false := by simp; omega
    have hdd' := hid hdd
    clear hdd
    go_wp2_with fail
    have htx := mk_text d hdle bs.tail
    have htx2 := mk_text d hdle (mk d bs.tail).2
    have hlen2 := mk_len d bs.tail
    refine (ih wc p B h' bs.tail (by simp; omega) (by omega) hsl3'.out hp3'.out).mono ?_
    rintro e w1 ⟨v1, c1, h1, rfl, hr1, hc1, hs1, hp1, hg1⟩
    obtain ⟨va, vn, vc, rfl⟩ := hr1.agg
    obtain ⟨caps, rfl⟩ := hc1.form
    have hr1' := hid hr1
    have hc1' := hid hc1
    have hs1' := hid hs1
    have hp1' := hid hp1
    have hpw : p ≠ w.heap.size := by omega
    have hz1 := hg1.size
    have kt : w1.heap[w.heap.size]? = some (.cells #[.int .i64 0, .int .i64 0, .slice none 0 0] 28 (0, 0)) := (hg1.block _ (by omega) (by simp; omega)).trans ht3'.out
    have kt0 : w1.cell? ⟨w.heap.size, 0, none⟩ = some (.int .i64 0) := by simp [World.cell?, kt]
    have kt1 : w1.cell? ⟨w.heap.size, 1, none⟩ = some (.int .i64 0) := by simp [World.cell?, kt]
    have kt2 : w1.cell? ⟨w.heap.size, 2, none⟩ = some (.slice none 0 0) := by simp [World.cell?, kt]
    have ktf0 : w1.frozen? ⟨w.heap.size, 0, none⟩ = false := by simp [World.frozen?, kt]
    have ktf1 : w1.frozen? ⟨w.heap.size, 1, none⟩ = false := by simp [World.frozen?, kt]
    have ktf2 : w1.frozen? ⟨w.heap.size, 2, none⟩ = false := by simp [World.frozen?, kt]
    have hz5 : w.heap.size < w1.heap.size := by omega
    have hz6 : w.heap.size < w1.heap.size + 1 := by omega
    have hz7 : w.heap.size < w1.heap.size + 1 + 1 := by omega
    have ktH := hid kt
    clear hr1 hc1 hs1 hp1 kt ht0 ht1 ht2 htf0 htf1 htf2
    go_wp2_with fail
    refine (ih _ p B h1 (mk d bs.tail).2 ?_ ?_ ?_ ?_).mono ?_
    · simp at hlen2; omega
    · simp; omega
    · exact hs1'.out.keep fun k _ _ => by rw [Below.heap_alloc _ _ _ (by simp; omega), Below.heap_alloc _ _ _ (by omega)]
    · rw [Below.heap_alloc _ _ _ (by simp; omega), Below.heap_alloc _ _ _ (by omega)]; exact hp1'.out
    rintro e w2 ⟨v2, c2, h2, rfl, hr2, hc2, hs2, hp2, hg2⟩
    obtain ⟨va', vn', vc', rfl⟩ := hr2.agg
    obtain ⟨caps', rfl⟩ := hc2.form
    have hr2' := hid hr2
    have hc2' := hid hc2
    have hs2' := hid hs2
    have hp2' := hid hp2
    have hz8 := hg2.size
    simp only [World.size_alloc] at hz8
    have hp1n : p ≠ w1.heap.size := by omega
    have hp2n : p ≠ w1.heap.size + 1 := by omega
    have j0 := hg2.cell (a := ⟨w1.heap.size, 0, none⟩) (cell_past _ _ _ _ _ (cell_new w1 _ _ 0 _ _ rfl rfl)) (by simp; omega)
    have j1 := hg2.cell (a := ⟨w1.heap.size, 1, none⟩) (cell_past _ _ _ _ _ (cell_new w1 _ _ 1 _ _ rfl rfl)) (by simp; omega)
    have j2 := hg2.cell (a := ⟨w1.heap.size, 2, none⟩) (cell_past _ _ _ _ _ (cell_new w1 _ _ 2 _ _ rfl rfl)) (by simp; omega)
    have j3 := hg2.cell (a := ⟨w1.heap.size + 1, 0, none⟩) (cell_new _ _ _ 0 _ _ (by simp) rfl) (by simp; omega)
    have kt : w2.heap[w.heap.size]? = some (.cells #[.int .i64 0, .int .i64 0, .slice none 0 0] 28 (0, 0)) := (hg2.block _ (by simp; omega) (by simp; omega)).trans (by rw [Below.heap_alloc _ _ _ (by simp; omega), Below.heap_alloc _ _ _ (by omega)]; exact ktH.out)
    have lt0 : w2.cell? ⟨w.heap.size, 0, none⟩ = some (.int .i64 0) := by simp [World.cell?, kt]
    have lt1 : w2.cell? ⟨w.heap.size, 1, none⟩ = some (.int .i64 0) := by simp [World.cell?, kt]
    have lt2 : w2.cell? ⟨w.heap.size, 2, none⟩ = some (.slice none 0 0) := by simp [World.cell?, kt]
    have ltf0 : w2.frozen? ⟨w.heap.size, 0, none⟩ = false := by simp [World.frozen?, kt]
    have ltf1 : w2.frozen? ⟨w.heap.size, 1, none⟩ = false := by simp [World.frozen?, kt]
    have ltf2 : w2.frozen? ⟨w.heap.size, 2, none⟩ = false := by simp [World.frozen?, kt]
    have hy1 : w.heap.size < w2.heap.size := by omega
    have hy2 : w.heap.size < w2.heap.size + 1 := by omega
    have hy3 : w.heap.size < w2.heap.size + 1 + 1 := by omega
    have hy4 : w1.heap.size < w2.heap.size := by omega
    have hy5 : w1.heap.size < w2.heap.size + 1 := by omega
    have j3' := hid j3
    clear hr2 hc2 hs2 hp2 kt kt0 kt1 kt2 ktf0 ktf1 ktf2 j3 hp1n hp2n
    go_wp2_with fail
    refine bodyPost_ret (v := .tuple #[.agg #[.int .i64 3, .int .i64 0, .slice (some ⟨w2.heap.size + 1 + 1, 0, none⟩) 2 2], .string ⟨(Fm.bin 3 (mk d bs.tail).1 (mk d (mk d bs.tail).2).1).text.toArray⟩, .func (.func (cloOf 3)) #[] #[.pointer (some ⟨w1.heap.size + 1, 0, none⟩), .pointer (some ⟨w2.heap.size + 1, 0, none⟩)]]) ?_ rfl ?_
    · simp [results, Tryz.results5, go_sem, lt0, lt1, lt2, hy1, hy2, hy3]
      exact ⟨str_bin 3 _ _, rfl⟩
    · exact bin_done hBw hlt hg3 hz3'.out hr1'.out hc1'.out hg1 hg2 hr2'.out hc2'.out hs2'.out hp2'.out j3'.out _ _ _ rfl

set_option maxRecDepth 100000 in
set_option maxHeartbeats 2000000 in
theorem formed_minus (w : World) (p B : Nat) (hBw : B ≤ w.heap.size) (h : Value) (bs : List UInt8) (hlen : bs.length ≤ 80) (hsl : SlB w p B h bs) (hp : w.heap[p]? = some (.cells #[h] 22 (0, 0)))
    (kk : Nat) (hkk : Hid (hd bs = kk)) (hk256 : kk < 256) (d : Nat) (hdle : d ≤ 5) (ih : FormedSaid d) (hdd : kk % 9 = 3) :
    Calls Tryz.prog 5 #[.pointer (some ⟨p, 0, none⟩), .int .i64 ((d : Int) + 1)] w (FormedPost w p B (.bin 4 (mk d bs.tail).1 (mk d (mk d bs.tail).2).1, (mk d (mk d bs.tail).2).2)) := by
  obtain ⟨a0, c0, rfl⟩ := hsl.form
  have hsl' := hid hsl
  have hp' := hid hp
  have hp1 := cell_of_one hp
  have hp2 := free_of_one hp
  have hlt := lt_of_block hp
  clear hp hsl
  go_enter Tryz.func5, Tryz.ntmps5
  go_upto_if 21 with fail
  go_cut [7] (fun s7 wc => s7 = .int .i64 kk ∧ Taken w p B bs wc)
  case first =>
    have hsl := hsl'.out
    clear hsl'
    cases bs with
    | nil =>
      clear hsl
      go_wp2_with fail
      go_meet
      exact ⟨by rw [← hkk.out]; rfl, taken_nil rfl hp'.out⟩
    | cons b bs =>
      obtain ⟨k, o, c, hh, hc, hc', hk, hkB, hcell⟩ := hsl
      simp only [Value.slice.injEq, true_and] at hh
      obtain ⟨rfl, rfl⟩ := hh
      have h0 : w.cell? ⟨k, o, none⟩ = some (.int .u8 b.toNat) := hcell 0 b rfl
      have hltk := World.block_lt_of_cell? w _ h0
      have hlen' : bs.length + 1 ≤ 80 := hlen
      have hc2 : bs.length + 1 ≤ c0 := hc
      have hb : b.toNat < 256 := b.toNat_lt
      have hpos : 0 < (b :: bs).length := Nat.succ_pos _
      have hcell' := hid hcell
      have hcc := hid hc
      clear hcell hc hlen
      go_wp2_with fail
      · go_meet
        exact ⟨by rw [← hkk.out]; rfl, taken_cons hkB hcc.out hc' hk hcell'.out hp'.out (.inr ⟨List.eq_nil_of_length_eq_zero (by omega), _, _, by rw [List.eq_nil_of_length_eq_zero (l := bs) (by omega)]; rfl⟩)⟩
      · go_meet
        exact ⟨by rw [← hkk.out]; rfl, taken_cons hkB hcc.out hc' hk hcell'.out hp'.out (.inl rfl)⟩
  case rest =>
    obtain ⟨rfl, h', hp3, hsl3, hg3, ht3, hz3⟩ := hcut
    have ht0 : wc.cell? ⟨w.heap.size, 0, none⟩ = some (.int .i64 0) := by simp [World.cell?, ht3]
    have ht1 : wc.cell? ⟨w.heap.size, 1, none⟩ = some (.int .i64 0) := by simp [World.cell?, ht3]
    have ht2 : wc.cell? ⟨w.heap.size, 2, none⟩ = some (.slice none 0 0) := by simp [World.cell?, ht3]
    have htf0 : wc.frozen? ⟨w.heap.size, 0, none⟩ = false := by simp [World.frozen?, ht3]
    have htf1 : wc.frozen? ⟨w.heap.size, 1, none⟩ = false := by simp [World.frozen?, ht3]
    have htf2 : wc.frozen? ⟨w.heap.size, 2, none⟩ = false := by simp [World.frozen?, ht3]
    have hp3' := hid hp3
    have hsl3' := hid hsl3
    have ht3' := hid ht3
    have hz3' := hid hz3
    have hz4 : w.heap.size < wc.heap.size := by omega
    clear hp3 hsl3 ht3 hz3 hsl' hp' hp1
    have hb1 : (((d : Int) + 1) == 0) = false := by simp; omega
    have hb2 : decide ((5 : Int) < (kk : Int) % 9) = false := by simp; omega
    have hb3 : (((kk : Int) % 9) == 0) = false := by simp; omega
    have hb4 : (((kk : Int) % 9) == 1) = false := by simp; omega
    have hb5 : (((kk : Int) % 9) == 2) = false := by simp; omega
    have hb6 : (((kk : Int) % 9) == 3) = true := by simp; omega
    have hb7 : (((kk : Int) % 9) == 4) = false := by simp; omega
    have hdd' := hid hdd
    clear hdd
    go_wp2_with fail
    have htx := mk_text d hdle bs.tail
    have htx2 := mk_text d hdle (mk d bs.tail).2
    have hlen2 := mk_len d bs.tail
    refine (ih wc p B h' bs.tail (by simp; omega) (by omega) hsl3'.out hp3'.out).mono ?_
    rintro e w1 ⟨v1, c1, h1, rfl, hr1, hc1, hs1, hp1, hg1⟩
    obtain ⟨va, vn, vc, rfl⟩ := hr1.agg
    obtain ⟨caps, rfl⟩ := hc1.form
    have hr1' := hid hr1
    have hc1' := hid hc1
    have hs1' := hid hs1
    have hp1' := hid hp1
    have hpw : p ≠ w.heap.size := by omega
    have hz1 := hg1.size
    have kt : w1.heap[w.heap.size]? = some (.cells #[.int .i64 0, .int .i64 0, .slice none 0 0] 28 (0, 0)) := (hg1.block _ (by omega) (by simp; omega)).trans ht3'.out
    have kt0 : w1.cell? ⟨w.heap.size, 0, none⟩ = some (.int .i64 0) := by simp [World.cell?, kt]
    have kt1 : w1.cell? ⟨w.heap.size, 1, none⟩ = some (.int .i64 0) := by simp [World.cell?, kt]
    have kt2 : w1.cell? ⟨w.heap.size, 2, none⟩ = some (.slice none 0 0) := by simp [World.cell?, kt]
    have ktf0 : w1.frozen? ⟨w.heap.size, 0, none⟩ = false := by simp [World.frozen?, kt]
    have ktf1 : w1.frozen? ⟨w.heap.size, 1, none⟩ = false := by simp [World.frozen?, kt]
    have ktf2 : w1.frozen? ⟨w.heap.size, 2, none⟩ = false := by simp [World.frozen?, kt]
    have hz5 : w.heap.size < w1.heap.size := by omega
    have hz6 : w.heap.size < w1.heap.size + 1 := by omega
    have hz7 : w.heap.size < w1.heap.size + 1 + 1 := by omega
    have ktH := hid kt
    clear hr1 hc1 hs1 hp1 kt ht0 ht1 ht2 htf0 htf1 htf2
    go_wp2_with fail
    refine (ih _ p B h1 (mk d bs.tail).2 ?_ ?_ ?_ ?_).mono ?_
    · simp at hlen2; omega
    · simp; omega
    · exact hs1'.out.keep fun k _ _ => by rw [Below.heap_alloc _ _ _ (by simp; omega), Below.heap_alloc _ _ _ (by omega)]
    · rw [Below.heap_alloc _ _ _ (by simp; omega), Below.heap_alloc _ _ _ (by omega)]; exact hp1'.out
    rintro e w2 ⟨v2, c2, h2, rfl, hr2, hc2, hs2, hp2, hg2⟩
    obtain ⟨va', vn', vc', rfl⟩ := hr2.agg
    obtain ⟨caps', rfl⟩ := hc2.form
    have hr2' := hid hr2
    have hc2' := hid hc2
    have hs2' := hid hs2
    have hp2' := hid hp2
    have hz8 := hg2.size
    simp only [World.size_alloc] at hz8
    have hp1n : p ≠ w1.heap.size := by omega
    have hp2n : p ≠ w1.heap.size + 1 := by omega
    have j0 := hg2.cell (a := ⟨w1.heap.size, 0, none⟩) (cell_past _ _ _ _ _ (cell_new w1 _ _ 0 _ _ rfl rfl)) (by simp; omega)
    have j1 := hg2.cell (a := ⟨w1.heap.size, 1, none⟩) (cell_past _ _ _ _ _ (cell_new w1 _ _ 1 _ _ rfl rfl)) (by simp; omega)
    have j2 := hg2.cell (a := ⟨w1.heap.size, 2, none⟩) (cell_past _ _ _ _ _ (cell_new w1 _ _ 2 _ _ rfl rfl)) (by simp; omega)
    have j3 := hg2.cell (a := ⟨w1.heap.size + 1, 0, none⟩) (cell_new _ _ _ 0 _ _ (by simp) rfl) (by simp; omega)
    have kt : w2.heap[w.heap.size]? = some (.cells #[.int .i64 0, .int .i64 0, .slice none 0 0] 28 (0, 0)) := (hg2.block _ (by simp; omega) (by simp; omega)).trans (by rw [Below.heap_alloc _ _ _ (by simp; omega), Below.heap_alloc _ _ _ (by omega)]; exact ktH.out)
    have lt0 : w2.cell? ⟨w.heap.size, 0, none⟩ = some (.int .i64 0) := by simp [World.cell?, kt]
    have lt1 : w2.cell? ⟨w.heap.size, 1, none⟩ = some (.int .i64 0) := by simp [World.cell?, kt]
    have lt2 : w2.cell? ⟨w.heap.size, 2, none⟩ = some (.slice none 0 0) := by simp [World.cell?, kt]
    have ltf0 : w2.frozen? ⟨w.heap.size, 0, none⟩ = false := by simp [World.frozen?, kt]
    have ltf1 : w2.frozen? ⟨w.heap.size, 1, none⟩ = false := by simp [World.frozen?, kt]
    have ltf2 : w2.frozen? ⟨w.heap.size, 2, none⟩ = false := by simp [World.frozen?, kt]
    have hy1 : w.heap.size < w2.heap.size := by omega
    have hy2 : w.heap.size < w2.heap.size + 1 := by omega
    have hy3 : w.heap.size < w2.heap.size + 1 + 1 := by omega
    have hy4 : w1.heap.size < w2.heap.size := by omega
    have hy5 : w1.heap.size < w2.heap.size + 1 := by omega
    have j3' := hid j3
    clear hr2 hc2 hs2 hp2 kt kt0 kt1 kt2 ktf0 ktf1 ktf2 j3 hp1n hp2n
    go_wp2_with fail
    refine bodyPost_ret (v := .tuple #[.agg #[.int .i64 4, .int .i64 0, .slice (some ⟨w2.heap.size + 1 + 1, 0, none⟩) 2 2], .string ⟨(Fm.bin 4 (mk d bs.tail).1 (mk d (mk d bs.tail).2).1).text.toArray⟩, .func (.func (cloOf 4)) #[] #[.pointer (some ⟨w1.heap.size + 1, 0, none⟩), .pointer (some ⟨w2.heap.size + 1, 0, none⟩)]]) ?_ rfl ?_
    · simp [results, Tryz.results5, go_sem, lt0, lt1, lt2, hy1, hy2, hy3]
      exact ⟨str_bin 4 _ _, rfl⟩
    · exact bin_done hBw hlt hg3 hz3'.out hr1'.out hc1'.out hg1 hg2 hr2'.out hc2'.out hs2'.out hp2'.out j3'.out _ _ _ rfl

set_option maxRecDepth 100000 in
set_option maxHeartbeats 2000000 in
theorem formed_xor (w : World) (p B : Nat) (hBw : B ≤ w.heap.size) (h : Value) (bs : List UInt8) (hlen : bs.length ≤ 80) (hsl : SlB w p B h bs) (hp : w.heap[p]? = some (.cells #[h] 22 (0, 0)))
    (kk : Nat) (hkk : Hid (hd bs = kk)) (hk256 : kk < 256) (d : Nat) (hdle : d ≤ 5) (ih : FormedSaid d) (hdd : kk % 9 = 4) :
    Calls Tryz.prog 5 #[.pointer (some ⟨p, 0, none⟩), .int .i64 ((d : Int) + 1)] w (FormedPost w p B (.bin 5 (mk d bs.tail).1 (mk d (mk d bs.tail).2).1, (mk d (mk d bs.tail).2).2)) := by
  obtain ⟨a0, c0, rfl⟩ := hsl.form
  have hsl' := hid hsl
  have hp' := hid hp
  have hp1 := cell_of_one hp
  have hp2 := free_of_one hp
  have hlt := lt_of_block hp
  clear hp hsl
  go_enter Tryz.func5, Tryz.ntmps5
  go_upto_if 21 with fail
  go_cut [7] (fun s7 wc => s7 = .int .i64 kk ∧ Taken w p B bs wc)
  case first =>
    have hsl := hsl'.out
    clear hsl'
    cases bs with
    | nil =>
      clear hsl
      go_wp2_with fail
      go_meet
      exact ⟨by rw [← hkk.out]; rfl, taken_nil rfl hp'.out⟩
    | cons b bs =>
      obtain ⟨k, o, c, hh, hc, hc', hk, hkB, hcell⟩ := hsl
      simp only [Value.slice.injEq, true_and] at hh
      obtain ⟨rfl, rfl⟩ := hh
      have h0 : w.cell? ⟨k, o, none⟩ = some (.int .u8 b.toNat) := hcell 0 b rfl
      have hltk := World.block_lt_of_cell? w _ h0
      have hlen' : bs.length + 1 ≤ 80 := hlen
      have hc2 : bs.length + 1 ≤ c0 := hc
      have hb : b.toNat < 256 := b.toNat_lt
      have hpos : 0 < (b :: bs).length := Nat.succ_pos _
      have hcell' := hid hcell
      have hcc := hid hc
      clear hcell hc hlen
      go_wp2_with fail
      · go_meet
        exact ⟨by rw [← hkk.out]; rfl, taken_cons hkB hcc.out hc' hk hcell'.out hp'.out (.inr ⟨List.eq_nil_of_length_eq_zero (by omega), _, _, by rw [List.eq_nil_of_length_eq_zero (l := bs) (by omega)]; rfl⟩)⟩
      · go_meet
        exact ⟨by rw [← hkk.out]; rfl, taken_cons hkB hcc.out hc' hk hcell'.out hp'.out (.inl rfl)⟩
  case rest =>
    obtain ⟨rfl, h', hp3, hsl3, hg3, ht3, hz3⟩ := hcut
    have ht0 : wc.cell? ⟨w.heap.size, 0, none⟩ = some (.int .i64 0) := by simp [World.cell?, ht3]
    have ht1 : wc.cell? ⟨w.heap.size, 1, none⟩ = some (.int .i64 0) := by simp [World.cell?, ht3]
    have ht2 : wc.cell? ⟨w.heap.size, 2, none⟩ = some (.slice none 0 0) := by simp [World.cell?, ht3]
    have htf0 : wc.frozen? ⟨w.heap.size, 0, none⟩ = false := by simp [World.frozen?, ht3]
    have htf1 : wc.frozen? ⟨w.heap.size, 1, none⟩ = false := by simp [World.frozen?, ht3]
    have htf2 : wc.frozen? ⟨w.heap.size, 2, none⟩ = false := by simp [World.frozen?, ht3]
    have hp3' := hid hp3
    have hsl3' := hid hsl3
    have ht3' := hid ht3
    have hz3' := hid hz3
    have hz4 : w.heap.size < wc.heap.size := by omega
    clear hp3 hsl3 ht3 hz3 hsl' hp' hp1
    have hb1 : (((d : Int) + 1) == 0) = false := by simp; omega
    have hb2 : decide ((5 : Int) < (kk : Int) % 9) = false := by simp; omega
    have hb3 : (((kk : Int) % 9) == 0) = false := by simp; omega
    have hb4 : (((kk : Int) % 9) == 1) = false := by simp; omega
    have hb5 : (((kk : Int) % 9) == 2) = false := by simp; omega
    have hb6 : (((kk : Int) % 9) == 3) = false := by simp; omega
    have hb7 : (((kk : Int) % 9) == 4) = true := by simp; omega
    have hdd' := hid hdd
    clear hdd
    go_wp2_with fail
    have htx := mk_text d hdle bs.tail
    have htx2 := mk_text d hdle (mk d bs.tail).2
    have hlen2 := mk_len d bs.tail
    refine (ih wc p B h' bs.tail (by simp; omega) (by omega) hsl3'.out hp3'.out).mono ?_
    rintro e w1 ⟨v1, c1, h1, rfl, hr1, hc1, hs1, hp1, hg1⟩
    obtain ⟨va, vn, vc, rfl⟩ := hr1.agg
    obtain ⟨caps, rfl⟩ := hc1.form
    have hr1' := hid hr1
    have hc1' := hid hc1
    have hs1' := hid hs1
    have hp1' := hid hp1
    have hpw : p ≠ w.heap.size := by omega
    have hz1 := hg1.size
    have kt : w1.heap[w.heap.size]? = some (.cells #[.int .i64 0, .int .i64 0, .slice none 0 0] 28 (0, 0)) := (hg1.block _ (by omega) (by simp; omega)).trans ht3'.out
    have kt0 : w1.cell? ⟨w.heap.size, 0, none⟩ = some (.int .i64 0) := by simp [World.cell?, kt]
    have kt1 : w1.cell? ⟨w.heap.size, 1, none⟩ = some (.int .i64 0) := by simp [World.cell?, kt]
    have kt2 : w1.cell? ⟨w.heap.size, 2, none⟩ = some (.slice none 0 0) := by simp [World.cell?, kt]
    have ktf0 : w1.frozen? ⟨w.heap.size, 0, none⟩ = false := by simp [World.frozen?, kt]
    have ktf1 : w1.frozen? ⟨w.heap.size, 1, none⟩ = false := by simp [World.frozen?, kt]
    have ktf2 : w1.frozen? ⟨w.heap.size, 2, none⟩ = false := by simp [World.frozen?, kt]
    have hz5 : w.heap.size < w1.heap.size := by omega
    have hz6 : w.heap.size < w1.heap.size + 1 := by omega
    have hz7 : w.heap.size < w1.heap.size + 1 + 1 := by omega
    have ktH := hid kt
    clear hr1 hc1 hs1 hp1 kt ht0 ht1 ht2 htf0 htf1 htf2
    go_wp2_with fail
    refine (ih _ p B h1 (mk d bs.tail).2 ?_ ?_ ?_ ?_).mono ?_
    · simp at hlen2; omega
    · simp; omega
    · exact hs1'.out.keep fun k _ _ => by rw [Below.heap_alloc _ _ _ (by simp; omega), Below.heap_alloc _ _ _ (by omega)]
    · rw [Below.heap_alloc _ _ _ (by simp; omega), Below.heap_alloc _ _ _ (by omega)]; exact hp1'.out
    rintro e w2 ⟨v2, c2, h2, rfl, hr2, hc2, hs2, hp2, hg2⟩
    obtain ⟨va', vn', vc', rfl⟩ := hr2.agg
    obtain ⟨caps', rfl⟩ := hc2.form
    have hr2' := hid hr2
    have hc2' := hid hc2
    have hs2' := hid hs2
    have hp2' := hid hp2
    have hz8 := hg2.size
    simp only [World.size_alloc] at hz8
    have hp1n : p ≠ w1.heap.size := by omega
    have hp2n : p ≠ w1.heap.size + 1 := by omega
    have j0 := hg2.cell (a := ⟨w1.heap.size, 0, none⟩) (cell_past _ _ _ _ _ (cell_new w1 _ _ 0 _ _ rfl rfl)) (by simp; omega)
    have j1 := hg2.cell (a := ⟨w1.heap.size, 1, none⟩) (cell_past _ _ _ _ _ (cell_new w1 _ _ 1 _ _ rfl rfl)) (by simp; omega)
    have j2 := hg2.cell (a := ⟨w1.heap.size, 2, none⟩) (cell_past _ _ _ _ _ (cell_new w1 _ _ 2 _ _ rfl rfl)) (by simp; omega)
    have j3 := hg2.cell (a := ⟨w1.heap.size + 1, 0, none⟩) (cell_new _ _ _ 0 _ _ (by simp) rfl) (by simp; omega)
    have kt : w2.heap[w.heap.size]? = some (.cells #[.int .i64 0, .int .i64 0, .slice none 0 0] 28 (0, 0)) := (hg2.block _ (by simp; omega) (by simp; omega)).trans (by rw [Below.heap_alloc _ _ _ (by simp; omega), Below.heap_alloc _ _ _ (by omega)]; exact ktH.out)
    have lt0 : w2.cell? ⟨w.heap.size, 0, none⟩ = some (.int .i64 0) := by simp [World.cell?, kt]
    have lt1 : w2.cell? ⟨w.heap.size, 1, none⟩ = some (.int .i64 0) := by simp [World.cell?, kt]
    have lt2 : w2.cell? ⟨w.heap.size, 2, none⟩ = some (.slice none 0 0) := by simp [World.cell?, kt]
    have ltf0 : w2.frozen? ⟨w.heap.size, 0, none⟩ = false := by simp [World.frozen?, kt]
    have ltf1 : w2.frozen? ⟨w.heap.size, 1, none⟩ = false := by simp [World.frozen?, kt]
    have ltf2 : w2.frozen? ⟨w.heap.size, 2, none⟩ = false := by simp [World.frozen?, kt]
    have hy1 : w.heap.size < w2.heap.size := by omega
    have hy2 : w.heap.size < w2.heap.size + 1 := by omega
    have hy3 : w.heap.size < w2.heap.size + 1 + 1 := by omega
    have hy4 : w1.heap.size < w2.heap.size := by omega
    have hy5 : w1.heap.size < w2.heap.size + 1 := by omega
    have j3' := hid j3
    clear hr2 hc2 hs2 hp2 kt kt0 kt1 kt2 ktf0 ktf1 ktf2 j3 hp1n hp2n
    go_wp2_with fail
    refine bodyPost_ret (v := .tuple #[.agg #[.int .i64 5, .int .i64 0, .slice (some ⟨w2.heap.size + 1 + 1, 0, none⟩) 2 2], .string ⟨(Fm.bin 5 (mk d bs.tail).1 (mk d (mk d bs.tail).2).1).text.toArray⟩, .func (.func (cloOf 5)) #[] #[.pointer (some ⟨w1.heap.size + 1, 0, none⟩), .pointer (some ⟨w2.heap.size + 1, 0, none⟩)]]) ?_ rfl ?_
    · simp [results, Tryz.results5, go_sem, lt0, lt1, lt2, hy1, hy2, hy3]
      exact ⟨str_bin 5 _ _, rfl⟩
    · exact bin_done hBw hlt hg3 hz3'.out hr1'.out hc1'.out hg1 hg2 hr2'.out hc2'.out hs2'.out hp2'.out j3'.out _ _ _ rfl

set_option maxRecDepth 100000 in
set_option maxHeartbeats 2000000 in
theorem formed_or (w : World) (p B : Nat) (hBw : B ≤ w.heap.size) (h : Value) (bs : List UInt8) (hlen : bs.length ≤ 80) (hsl : SlB w p B h bs) (hp : w.heap[p]? = some (.cells #[h] 22 (0, 0)))
    (kk : Nat) (hkk : Hid (hd bs = kk)) (hk256 : kk < 256) (d : Nat) (hdle : d ≤ 5) (ih : FormedSaid d) (hdd : kk % 9 = 5) :
    Calls Tryz.prog 5 #[.pointer (some ⟨p, 0, none⟩), .int .i64 ((d : Int) + 1)] w (FormedPost w p B (.bin 6 (mk d bs.tail).1 (mk d (mk d bs.tail).2).1, (mk d (mk d bs.tail).2).2)) := by
  obtain ⟨a0, c0, rfl⟩ := hsl.form
  have hsl' := hid hsl
  have hp' := hid hp
  have hp1 := cell_of_one hp
  have hp2 := free_of_one hp
  have hlt := lt_of_block hp
  clear hp hsl
  go_enter Tryz.func5, Tryz.ntmps5
  go_upto_if 21 with fail
  go_cut [7] (fun s7 wc => s7 = .int .i64 kk ∧ Taken w p B bs wc)
  case first =>
    have hsl := hsl'.out
    clear hsl'
    cases bs with
    | nil =>
      clear hsl
      go_wp2_with fail
      go_meet
      exact ⟨by rw [← hkk.out]; rfl, taken_nil rfl hp'.out⟩
    | cons b bs =>
      obtain ⟨k, o, c, hh, hc, hc', hk, hkB, hcell⟩ := hsl
      simp only [Value.slice.injEq, true_and] at hh
      obtain ⟨rfl, rfl⟩ := hh
      have h0 : w.cell? ⟨k, o, none⟩ = some (.int .u8 b.toNat) := hcell 0 b rfl
      have hltk := World.block_lt_of_cell? w _ h0
      have hlen' : bs.length + 1 ≤ 80 := hlen
      have hc2 : bs.length + 1 ≤ c0 := hc
      have hb : b.toNat < 256 := b.toNat_lt
      have hpos : 0 < (b :: bs).length := Nat.succ_pos _
      have hcell' := hid hcell
      have hcc := hid hc
      clear hcell hc hlen
      go_wp2_with fail
      · go_meet
        exact ⟨by rw [← hkk.out]; rfl, taken_cons hkB hcc.out hc' hk hcell'.out hp'.out (.inr ⟨List.eq_nil_of_length_eq_zero (by omega), _, _, by rw [List.eq_nil_of_length_eq_zero (l := bs) (by omega)]; rfl⟩)⟩
      · go_meet
        exact ⟨by rw [← hkk.out]; rfl, taken_cons hkB hcc.out hc' hk hcell'.out hp'.out (.inl rfl)⟩
  case rest =>
    obtain ⟨rfl, h', hp3, hsl3, hg3, ht3, hz3⟩ := hcut
    have ht0 : wc.cell? ⟨w.heap.size, 0, none⟩ = some (.int .i64 0) := by simp [World.cell?, ht3]
    have ht1 : wc.cell? ⟨w.heap.size, 1, none⟩ = some (.int .i64 0) := by simp [World.cell?, ht3]
    have ht2 : wc.cell? ⟨w.heap.size, 2, none⟩ = some (.slice none 0 0) := by simp [World.cell?, ht3]
    have htf0 : wc.frozen? ⟨w.heap.size, 0, none⟩ = false := by simp [World.frozen?, ht3]
    have htf1 : wc.frozen? ⟨w.heap.size, 1, none⟩ = false := by simp [World.frozen?, ht3]
    have htf2 : wc.frozen? ⟨w.heap.size, 2, none⟩ = false := by simp [World.frozen?, ht3]
    have hp3' := hid hp3
    have hsl3' := hid hsl3
    have ht3' := hid ht3
    have hz3' := hid hz3
    have hz4 : w.heap.size < wc.heap.size := by omega
    clear hp3 hsl3 ht3 hz3 hsl' hp' hp1
    have hb1 : (((d : Int) + 1) == 0) = false := by simp; omega
    have hb2 : decide ((5 : Int) < (kk : Int) % 9) = false := by simp; omega
    have hb3 : (((kk : Int) % 9) == 0) = false := by simp; omega
    have hb4 : (((kk : Int) % 9) == 1) = false := by simp; omega
    have hb5 : (((kk : Int) % 9) == 2) = false := by simp; omega
    have hb6 : (((kk : Int) % 9) == 3) = false := by simp; omega
    have hb7 : (((kk : Int) % 9) == 4) = false := by simp; omega
    have hdd' := hid hdd
    clear hdd
    go_wp2_with fail
    have htx := mk_text d hdle bs.tail
    have htx2 := mk_text d hdle (mk d bs.tail).2
    have hlen2 := mk_len d bs.tail
    refine (ih wc p B h' bs.tail (by simp; omega) (by omega) hsl3'.out hp3'.out).mono ?_
    rintro e w1 ⟨v1, c1, h1, rfl, hr1, hc1, hs1, hp1, hg1⟩
    obtain ⟨va, vn, vc, rfl⟩ := hr1.agg
    obtain ⟨caps, rfl⟩ := hc1.form
    have hr1' := hid hr1
    have hc1' := hid hc1
    have hs1' := hid hs1
    have hp1' := hid hp1
    have hpw : p ≠ w.heap.size := by omega
    have hz1 := hg1.size
    have kt : w1.heap[w.heap.size]? = some (.cells #[.int .i64 0, .int .i64 0, .slice none 0 0] 28 (0, 0)) := (hg1.block _ (by omega) (by simp; omega)).trans ht3'.out
    have kt0 : w1.cell? ⟨w.heap.size, 0, none⟩ = some (.int .i64 0) := by simp [World.cell?, kt]
    have kt1 : w1.cell? ⟨w.heap.size, 1, none⟩ = some (.int .i64 0) := by simp [World.cell?, kt]
    have kt2 : w1.cell? ⟨w.heap.size, 2, none⟩ = some (.slice none 0 0) := by simp [World.cell?, kt]
    have ktf0 : w1.frozen? ⟨w.heap.size, 0, none⟩ = false := by simp [World.frozen?, kt]
    have ktf1 : w1.frozen? ⟨w.heap.size, 1, none⟩ = false := by simp [World.frozen?, kt]
    have ktf2 : w1.frozen? ⟨w.heap.size, 2, none⟩ = false := by simp [World.frozen?, kt]
    have hz5 : w.heap.size < w1.heap.size := by omega
    have hz6 : w.heap.size < w1.heap.size + 1 := by omega
    have hz7 : w.heap.size < w1.heap.size + 1 + 1 := by omega
    have ktH := hid kt
    clear hr1 hc1 hs1 hp1 kt ht0 ht1 ht2 htf0 htf1 htf2
    go_wp2_with fail
    refine (ih _ p B h1 (mk d bs.tail).2 ?_ ?_ ?_ ?_).mono ?_
    · simp at hlen2; omega
    · simp; omega
    · exact hs1'.out.keep fun k _ _ => by rw [Below.heap_alloc _ _ _ (by simp; omega), Below.heap_alloc _ _ _ (by omega)]
    · rw [Below.heap_alloc _ _ _ (by simp; omega), Below.heap_alloc _ _ _ (by omega)]; exact hp1'.out
    rintro e w2 ⟨v2, c2, h2, rfl, hr2, hc2, hs2, hp2, hg2⟩
    obtain ⟨va', vn', vc', rfl⟩ := hr2.agg
    obtain ⟨caps', rfl⟩ := hc2.form
    have hr2' := hid hr2
    have hc2' := hid hc2
    have hs2' := hid hs2
    have hp2' := hid hp2
    have hz8 := hg2.size
    simp only [World.size_alloc] at hz8
    have hp1n : p ≠ w1.heap.size := by omega
    have hp2n : p ≠ w1.heap.size + 1 := by omega
    have j0 := hg2.cell (a := ⟨w1.heap.size, 0, none⟩) (cell_past _ _ _ _ _ (cell_new w1 _ _ 0 _ _ rfl rfl)) (by simp; omega)
    have j1 := hg2.cell (a := ⟨w1.heap.size, 1, none⟩) (cell_past _ _ _ _ _ (cell_new w1 _ _ 1 _ _ rfl rfl)) (by simp; omega)
    have j2 := hg2.cell (a := ⟨w1.heap.size, 2, none⟩) (cell_past _ _ _ _ _ (cell_new w1 _ _ 2 _ _ rfl rfl)) (by simp; omega)
    have j3 := hg2.cell (a := ⟨w1.heap.size + 1, 0, none⟩) (cell_new _ _ _ 0 _ _ (by simp) rfl) (by simp; omega)
    have kt : w2.heap[w.heap.size]? = some (.cells #[.int .i64 0, .int .i64 0, .slice none 0 0] 28 (0, 0)) := (hg2.block _ (by simp; omega) (by simp; omega)).trans (by rw [Below.heap_alloc _ _ _ (by simp; omega), Below.heap_alloc _ _ _ (by omega)]; exact ktH.out)
    have lt0 : w2.cell? ⟨w.heap.size, 0, none⟩ = some (.int .i64 0) := by simp [World.cell?, kt]
    have lt1 : w2.cell? ⟨w.heap.size, 1, none⟩ = some (.int .i64 0) := by simp [World.cell?, kt]
    have lt2 : w2.cell? ⟨w.heap.size, 2, none⟩ = some (.slice none 0 0) := by simp [World.cell?, kt]
    have ltf0 : w2.frozen? ⟨w.heap.size, 0, none⟩ = false := by simp [World.frozen?, kt]
    have ltf1 : w2.frozen? ⟨w.heap.size, 1, none⟩ = false := by simp [World.frozen?, kt]
    have ltf2 : w2.frozen? ⟨w.heap.size, 2, none⟩ = false := by simp [World.frozen?, kt]
    have hy1 : w.heap.size < w2.heap.size := by omega
    have hy2 : w.heap.size < w2.heap.size + 1 := by omega
    have hy3 : w.heap.size < w2.heap.size + 1 + 1 := by omega
    have hy4 : w1.heap.size < w2.heap.size := by omega
    have hy5 : w1.heap.size < w2.heap.size + 1 := by omega
    have j3' := hid j3
    clear hr2 hc2 hs2 hp2 kt kt0 kt1 kt2 ktf0 ktf1 ktf2 j3 hp1n hp2n
    go_wp2_with fail
    refine bodyPost_ret (v := .tuple #[.agg #[.int .i64 6, .int .i64 0, .slice (some ⟨w2.heap.size + 1 + 1, 0, none⟩) 2 2], .string ⟨(Fm.bin 6 (mk d bs.tail).1 (mk d (mk d bs.tail).2).1).text.toArray⟩, .func (.func (cloOf 6)) #[] #[.pointer (some ⟨w1.heap.size + 1, 0, none⟩), .pointer (some ⟨w2.heap.size + 1, 0, none⟩)]]) ?_ rfl ?_
    · simp [results, Tryz.results5, go_sem, lt0, lt1, lt2, hy1, hy2, hy3]
      exact ⟨str_bin 6 _ _, rfl⟩
    · exact bin_done hBw hlt hg3 hz3'.out hr1'.out hc1'.out hg1 hg2 hr2'.out hc2'.out hs2'.out hp2'.out j3'.out _ _ _ rfl

end Go.Proofs.YtjijlkiilmbdnaaGreatDoor
