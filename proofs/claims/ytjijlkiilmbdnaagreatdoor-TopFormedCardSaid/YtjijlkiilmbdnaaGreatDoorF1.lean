/- formed: leaves. -/
import Derived.Test.YtjijlkiilmbdnaaGreatDoorFw
namespace Go.Proofs.YtjijlkiilmbdnaaGreatDoor
open Go Go.RowKit

set_option maxRecDepth 100000 in
set_option maxHeartbeats 1000000 in
theorem formed_leaf (w : World) (p B : Nat) (hBw : B ≤ w.heap.size) (h : Value) (bs : List UInt8) (hlen : bs.length ≤ 80) (hsl : SlB w p B h bs) (hp : w.heap[p]? = some (.cells #[h] 22 (0, 0)))
    (kk : Nat) (hkk : Hid (hd bs = kk)) (hk256 : kk < 256) (d : Nat) (hdd : d = 0 ∨ kk % 9 > 5 ∨ kk % 9 = 0) :
    Calls Tryz.prog 5 #[.pointer (some ⟨p, 0, none⟩), .int .i64 d] w (FormedPost w p B (.layer (kk / 9 % 16), bs.tail)) := by
  obtain ⟨a0, c0, rfl⟩ := hsl.form
  have hsl' := hid hsl
  have hp' := hid hp
  have hp1 := cell_of_one hp
  have hp2 := free_of_one hp
  have hlt := lt_of_block hp
  clear hp hsl
  go_enter Tryz.func5, Tryz.ntmps5
  go_upto_if 21 with fail
  go_cut [7] (fun s7 wc => s7 = .int .i64 kk ∧ Taken w p B bs wc)
  case first =>
    have hsl := hsl'.out
    clear hsl'
    cases bs with
    | nil =>
      clear hsl
      go_wp2_with fail
      go_meet
      exact ⟨by rw [← hkk.out]; rfl, taken_nil rfl hp'.out⟩
    | cons b bs =>
      obtain ⟨k, o, c, hh, hc, hc', hk, hkB, hcell⟩ := hsl
      simp only [Value.slice.injEq, true_and] at hh
      obtain ⟨rfl, rfl⟩ := hh
      have h0 : w.cell? ⟨k, o, none⟩ = some (.int .u8 b.toNat) := hcell 0 b rfl
      have hltk := World.block_lt_of_cell? w _ h0
      have hlen' : bs.length + 1 ≤ 80 := hlen
      have hc2 : bs.length + 1 ≤ c0 := hc
      have hb : b.toNat < 256 := b.toNat_lt
      have hpos : 0 < (b :: bs).length := Nat.succ_pos _
      have hcell' := hid hcell
      have hcc := hid hc
      clear hcell hc hlen
      go_wp2_with fail
      · go_meet
        exact ⟨by rw [← hkk.out]; rfl, taken_cons hkB hcc.out hc' hk hcell'.out hp'.out (.inr ⟨List.eq_nil_of_length_eq_zero (by omega), _, _, by rw [List.eq_nil_of_length_eq_zero (l := bs) (by omega)]; rfl⟩)⟩
      · go_meet
        exact ⟨by rw [← hkk.out]; rfl, taken_cons hkB hcc.out hc' hk hcell'.out hp'.out (.inl rfl)⟩
  case rest =>
    obtain ⟨rfl, h', hp3, hsl3, hg3, ht3, hz3⟩ := hcut
    have ht0 : wc.cell? ⟨w.heap.size, 0, none⟩ = some (.int .i64 0) := by simp [World.cell?, ht3]
    have ht1 : wc.cell? ⟨w.heap.size, 1, none⟩ = some (.int .i64 0) := by simp [World.cell?, ht3]
    have ht2 : wc.cell? ⟨w.heap.size, 2, none⟩ = some (.slice none 0 0) := by simp [World.cell?, ht3]
    have htf0 : wc.frozen? ⟨w.heap.size, 0, none⟩ = false := by simp [World.frozen?, ht3]
    have htf1 : wc.frozen? ⟨w.heap.size, 1, none⟩ = false := by simp [World.frozen?, ht3]
    have htf2 : wc.frozen? ⟨w.heap.size, 2, none⟩ = false := by simp [World.frozen?, ht3]
    have hp3' := hid hp3
    have hsl3' := hid hsl3
    have ht3' := hid ht3
    have hz3' := hid hz3
    have hz4 : w.heap.size < wc.heap.size := by omega
    have hn16 : kk / 9 % 16 < 16 := by omega
    have hdig := digits_int kk
    have hdl := dec_len _ hn16
    clear hp3 hsl3 ht3 hz3 hsl' hp' hp1
    go_upto_region 6 with fail
    go_cut [45] (fun s45 wx => s45 = .bool true ∧ wx = wc)
    case first =>
      by_cases hd0 : d = 0
      · subst hd0
        go_wp2_with fail
        go_meet
        exact ⟨rfl, rfl⟩
      · have hdb : ((d : Int) == 0) = false := by simp; omega
        by_cases h5 : 5 < kk % 9
        · have h5' : decide ((5 : Int) < (kk : Int) % 9) = true := by simp; omega
          go_wp2_with fail
          go_meet
          exact ⟨rfl, rfl⟩
        · have h5' : decide ((5 : Int) < (kk : Int) % 9) = false := by simp; omega
          have h6 : kk % 9 = 0 := by omega
          have h6' : ((kk : Int) % 9 == 0) = true := by simp; omega
          clear hdd h6
          go_wp2_with fail
          go_meet
          exact ⟨rfl, rfl⟩
    case rest =>
    obtain ⟨rfl, rfl⟩ := hcut
    go_wp2_with fail
    have k9 : (wc.alloc (.cells #[.int .i64 ((kk : Int) / 9 % 16)] 3)).cell? ⟨wc.heap.size, 0, none⟩ = some (.int .i64 ((kk : Int) / 9 % 16)) := by simp [go_sem]
    have q0 : (wc.alloc (.cells #[.int .i64 ((kk : Int) / 9 % 16)] 3)).cell? ⟨w.heap.size, 0, none⟩ = some (.int .i64 0) := (World.cell?_alloc_past _ _ _ hz4).trans ht0
    have q1 : (wc.alloc (.cells #[.int .i64 ((kk : Int) / 9 % 16)] 3)).cell? ⟨w.heap.size, 1, none⟩ = some (.int .i64 0) := (World.cell?_alloc_past _ _ _ hz4).trans ht1
    have q2 : (wc.alloc (.cells #[.int .i64 ((kk : Int) / 9 % 16)] 3)).cell? ⟨w.heap.size, 2, none⟩ = some (.slice none 0 0) := (World.cell?_alloc_past _ _ _ hz4).trans ht2
    have qf0 : (wc.alloc (.cells #[.int .i64 ((kk : Int) / 9 % 16)] 3)).frozen? ⟨w.heap.size, 0, none⟩ = false := (World.frozen?_alloc_past _ _ _ hz4).trans htf0
    have qf1 : (wc.alloc (.cells #[.int .i64 ((kk : Int) / 9 % 16)] 3)).frozen? ⟨w.heap.size, 1, none⟩ = false := (World.frozen?_alloc_past _ _ _ hz4).trans htf1
    have qf2 : (wc.alloc (.cells #[.int .i64 ((kk : Int) / 9 % 16)] 3)).frozen? ⟨w.heap.size, 2, none⟩ = false := (World.frozen?_alloc_past _ _ _ hz4).trans htf2
    generalize hw2 : wc.alloc (.cells #[.int .i64 ((kk : Int) / 9 % 16)] 3) = w2 at *
    have hw2' := hid hw2
    clear hw2
    have hbig : ¬ (9223372036854775807 < 1 + (Lib.decDigits (kk / 9 % 16)).length) := by omega
    go_region_held3 (fun w' => w'.cell? ⟨wc.heap.size, 0, none⟩ = some (.int .i64 ((kk : Int) / 9 % 16)) ∧
        w'.cell? ⟨w.heap.size, 0, none⟩ = some (cellOf w' ⟨w.heap.size, 0, none⟩) ∧ w'.cell? ⟨w.heap.size, 1, none⟩ = some (cellOf w' ⟨w.heap.size, 1, none⟩) ∧ w'.cell? ⟨w.heap.size, 2, none⟩ = some (cellOf w' ⟨w.heap.size, 2, none⟩) ∧
        w'.frozen? ⟨w.heap.size, 0, none⟩ = false ∧ w'.frozen? ⟨w.heap.size, 1, none⟩ = false ∧ w'.frozen? ⟨w.heap.size, 2, none⟩ = false)
      (first
        | exact ⟨k9, cellOf_some q0, cellOf_some q1, cellOf_some q2, qf0, qf1, qf2⟩
        | assumption
        | exact keep_three (by omega) (by assumption))
      ((go_at_call 13; refine (hdig _ hn16).mono ?_; rintro e w1 ⟨rfl, rfl⟩))
    all_goals
      go_wp2_with fail
      refine bodyPost_ret (v := .tuple #[.agg #[.int .i64 1, .int .i64 ((kk : Int) / 9 % 16), .slice none 0 0], (.string ⟨(Fm.layer (kk / 9 % 16)).text.toArray⟩), .func (.func 20) #[] #[.pointer (some ⟨wc.heap.size, 0, none⟩)]]) ?_ rfl ?_
      · simp [results, Tryz.results5, go_sem, q0, q1, q2]
        exact Value.string.inj (str_layer _)
      · have := hw2'.out
        subst this
        have hq : ((kk : Int) / 9 % 16) = ((kk / 9 % 16 : Nat) : Int) := by omega
        rw [hq]
        exact leaf_done hBw hlt hsl3'.out hp3'.out hg3 hz3'.out

end Go.Proofs.YtjijlkiilmbdnaaGreatDoor
