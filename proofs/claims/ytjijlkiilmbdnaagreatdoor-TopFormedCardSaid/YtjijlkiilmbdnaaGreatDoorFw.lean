/- formed: a formula of some bytes, its text, its truth by masks: words. -/
import Derived.Test.YtjijlkiilmbdnaaGreatDoorCl
import Derived.Test.YtjijlkiilmbdnaaGreatDoorShelf
import Derived.Deep.RegionHeld3
import Derived.Deep.DeepCutAuto
namespace Go.Proofs.YtjijlkiilmbdnaaGreatDoor
open Go Go.RowKit

/-- The sign of what joins two. -/
def signOf (o : Nat) : UInt8 := if o = 3 then 38 else if o = 4 then 45 else if o = 5 then 94 else 124

/-- A formula's text. -/
def Fm.text : Fm → List UInt8
  | .layer n => 76 :: Lib.decDigits n
  | .not f => 33 :: f.text
  | .bin o f g => 40 :: (f.text ++ signOf o :: (g.text ++ [41]))

/-- The number of the first byte; 0: there is none. -/
def hd : List UInt8 → Nat | [] => 0 | b :: _ => b.toNat

/-- The formula that some bytes make, and the bytes that are left. -/
def mk : Nat → List UInt8 → Fm × List UInt8
  | 0, bs => (.layer (hd bs / 9 % 16), bs.tail)
  | d + 1, bs =>
    if hd bs % 9 > 5 ∨ hd bs % 9 = 0 then (.layer (hd bs / 9 % 16), bs.tail)
    else if hd bs % 9 = 1 then (.not (mk d bs.tail).1, (mk d bs.tail).2)
    else (.bin (hd bs % 9 + 1) (mk d bs.tail).1 (mk d (mk d bs.tail).2).1, (mk d (mk d bs.tail).2).2)

/-- The bytes of a slice that lies outside block p, below block B. -/
def SlB (w : World) (p B : Nat) (h : Value) : List UInt8 → Prop
  | [] => ∃ a c, h = .slice a 0 c
  | b :: bs => ∃ k o c, h = .slice (some ⟨k, o, none⟩) (b :: bs).length c ∧ (b :: bs).length ≤ c ∧ c ≤ 140737488351232 ∧ k ≠ p ∧ k < B ∧ ∀ i x, (b :: bs)[i]? = some x → w.cell? ⟨k, o + i, none⟩ = some (.int .u8 x.toNat)

theorem SlB.form {w : World} {p B : Nat} {h : Value} {bs : List UInt8} (hs : SlB w p B h bs) : ∃ a c, h = .slice a bs.length c := by
  cases bs with
  | nil => exact hs
  | cons b bs => obtain ⟨k, o, c, h, _⟩ := hs; exact ⟨_, _, h⟩

theorem SlB.keep {w w' : World} {p B : Nat} {h : Value} {bs : List UInt8} (hs : SlB w p B h bs) (hb : ∀ k, k < B → k ≠ p → w'.heap[k]? = w.heap[k]?) : SlB w' p B h bs := by
  cases bs with
  | nil => exact hs
  | cons b bs =>
    obtain ⟨k, o, c, h, h1, h2, h3, h4, h5⟩ := hs
    exact ⟨k, o, c, h, h1, h2, h3, h4, fun i x hx => by rw [World.cell?_of_block (hb k h4 h3)]; exact h5 i x hx⟩

theorem grown_trans {w v u : World} {p q : Nat} (h : w.grownBy v (some p)) (k : v.grownBy u (some q)) (hq : w.heap.size ≤ q ∨ q = p) : w.grownBy u (some p) := by
  refine ⟨k.os.trans h.os, k.tape.trans h.tape, k.output.trans h.output, Nat.le_trans h.size k.size, fun i hi hne => ?_⟩
  have hs := h.size
  rw [k.block i (by omega) (fun e => by
    simp only [Option.some.injEq] at e
    rcases hq with hq | hq
    · omega
    · exact hne (by rw [e, hq]))]
  exact h.block i hi hne

/-- What formed comes to, of a formula and the bytes that are left. -/
def FormedPost (w : World) (p B : Nat) (r : Fm × List UInt8) (e : Ending) (w' : World) : Prop := ∃ v c h', e = .returned (.tuple #[v, (.string ⟨r.1.text.toArray⟩), c]) ∧
    Rep (fun k => w.heap.size ≤ k) w' r.1 v ∧ ClRep (fun k => w.heap.size ≤ k) w' r.1 c ∧
    SlB w' p B h' r.2 ∧ w'.heap[p]? = some (.cells #[h'] 22 (0, 0)) ∧ w.grownBy w' (some p)

/-- What formed comes to. -/
def FormedSaid (d : Nat) : Prop := ∀ (w : World) (p B : Nat) (h : Value) (bs : List UInt8), bs.length ≤ 80 → B ≤ w.heap.size → SlB w p B h bs → w.heap[p]? = some (.cells #[h] 22 (0, 0)) →
  Calls Tryz.prog 5 #[.pointer (some ⟨p, 0, none⟩), .int .i64 d] w (FormedPost w p B (mk d bs))

theorem digits_any (n : Nat) (hn : n < 16) (w : World) : Calls Tryz.prog 13 #[.int .i64 n] w fun e w' => e = .returned (.string ⟨(Lib.decDigits n).toArray⟩) ∧ w = w' := by
  go_enter Tryz.func13, Tryz.ntmps13
  go_wp2_with (go_at_call 37; refine (Tryz.strconv_Itoa_small n (by omega) _).mono ?_; rintro e w1 ⟨rfl, rfl⟩)
  go_ret
  exact ⟨rfl, rfl⟩

theorem digits_int (bn : Nat) (w : World) (h : bn / 9 % 16 < 16) : Calls Tryz.prog 13 #[.int .i64 ((bn : Int) / 9 % 16)] w fun e w' => e = .returned (.string ⟨(Lib.decDigits (bn / 9 % 16)).toArray⟩) ∧ w' = w := by
  have := digits_any (bn / 9 % 16) h w
  rw [show (((bn / 9 % 16 : Nat) : Int)) = (bn : Int) / 9 % 16 from by omega] at this
  exact this.mono fun _ _ ⟨a, b⟩ => ⟨a, b.symm⟩

theorem dec_len : ∀ n, n < 16 → (Lib.decDigits n).length ≤ 2 := by decide +kernel

theorem Fm.text_len (f : Fm) (hok : f.ok) : f.text.length ≤ 3 * f.parts := by
  induction f with
  | layer n => have := dec_len n hok; simp [Fm.text, Fm.parts]; omega
  | not f ih => have := ih hok; simp [Fm.text, Fm.parts]; omega
  | bin o f g ih ih' => have := ih hok.2.2.1; have := ih' hok.2.2.2; simp [Fm.text, Fm.parts]; omega

theorem mk_ok (d : Nat) : ∀ bs, (mk d bs).1.ok := by
  induction d with
  | zero => intro bs; show _ % 16 < 16; omega
  | succ d ih =>
    intro bs
    unfold mk
    split
    · show _ % 16 < 16; omega
    · split
      · exact ih _
      · exact ⟨by omega, by omega, ih _, ih _⟩

theorem mk_depth (d : Nat) : ∀ bs, (mk d bs).1.depth ≤ d + 1 := by
  induction d with
  | zero => intro bs; exact Nat.le_refl _
  | succ d ih =>
    intro bs
    unfold mk
    split
    · show 1 ≤ _; omega
    · split
      · have := ih bs.tail; show _ + 1 ≤ _; omega
      · have := ih bs.tail; have := ih (mk d bs.tail).2; show max _ _ + 1 ≤ _; omega

theorem mk_parts (d : Nat) : ∀ bs, (mk d bs).1.parts + 1 ≤ 2 ^ (d + 1) := by
  induction d with
  | zero => intro bs; exact Nat.le_refl _
  | succ d ih =>
    intro bs
    unfold mk
    have h0 := Nat.pow_succ 2 (d + 1)
    have h1 : 1 ≤ 2 ^ d := Nat.one_le_two_pow
    have h2 := Nat.pow_succ 2 d
    split
    · show 1 + 1 ≤ _; omega
    · split
      · have := ih bs.tail; show _ + 1 + 1 ≤ _; omega
      · have := ih bs.tail; have := ih (mk d bs.tail).2; show _ + _ + 1 + 1 ≤ _; omega

theorem mk_text (d : Nat) (hd : d ≤ 5) (bs : List UInt8) : (mk d bs).1.text.length ≤ 200 := by
  have h1 := (mk d bs).1.text_len (mk_ok d bs)
  have h2 := mk_parts d bs
  have h3 : 2 ^ (d + 1) ≤ 2 ^ 6 := Nat.pow_le_pow_right (by omega) (by omega)
  omega

/-- What stands behind the first statement of formed: the byte is taken. -/
def Taken (w : World) (p B : Nat) (bs : List UInt8) (wc : World) : Prop := ∃ h', wc.heap[p]? = some (.cells #[h'] 22 (0, 0)) ∧ SlB wc p B h' bs.tail ∧ w.grownBy wc (some p) ∧
  wc.heap[w.heap.size]? = some (.cells #[.int .i64 0, .int .i64 0, .slice none 0 0] 28 (0, 0)) ∧ wc.heap.size = w.heap.size + 1

theorem taken_nil {w : World} {p B : Nat} {h : Value} {a : Option Addr} {c : Nat} (hh : h = .slice a 0 c) (hp : w.heap[p]? = some (.cells #[h] 22 (0, 0))) :
    Taken w p B [] (w.alloc (.cells #[.int .i64 0, .int .i64 0, .slice none 0 0] 28)) := by
  have hlt := lt_of_block hp
  refine ⟨h, by rw [Below.heap_alloc _ _ _ hlt]; exact hp, ⟨a, c, hh⟩, ⟨rfl, rfl, rfl, by simp, fun k hk _ => Below.heap_alloc _ _ _ hk⟩, ?_, by simp⟩
  exact heap_alloc_new w _

theorem taken_cons {w : World} {p B k o c : Nat} (hkB : k < B) {b : UInt8} {bs : List UInt8} (hc : (b :: bs).length ≤ c) (hc' : c ≤ 140737488351232) (hk : k ≠ p)
    (hcell : ∀ i x, (b :: bs)[i]? = some x → w.cell? ⟨k, o + i, none⟩ = some (.int .u8 x.toNat)) {h : Value} (hp : w.heap[p]? = some (.cells #[h] 22 (0, 0))) {h' : Value}
    (hh : h' = .slice (some ⟨k, o + 1, none⟩) bs.length (c - 1) ∨ (bs = [] ∧ ∃ a c', h' = .slice a 0 c')) :
    Taken w p B (b :: bs) ((w.setCell ⟨p, 0, none⟩ h').alloc (.cells #[.int .i64 0, .int .i64 0, .slice none 0 0] 28)) := by
  have hlt := lt_of_block hp
  have hs : (w.setCell ⟨p, 0, none⟩ h').heap.size = w.heap.size := by simp
  refine ⟨h', by rw [Below.heap_alloc _ _ _ (by omega)]; exact one_setCell hp, ?_, ⟨rfl, rfl, rfl, by simp, fun i hi hne => ?_⟩, ?_, by simp⟩
  · cases bs with
    | nil =>
      rcases hh with rfl | ⟨_, a, c', rfl⟩
      · exact ⟨_, _, rfl⟩
      · exact ⟨_, _, rfl⟩
    | cons b' bs =>
      rcases hh with rfl | ⟨h, _⟩
      · refine ⟨k, o + 1, c - 1, rfl, by simp at hc ⊢; omega, by omega, hk, hkB, fun i x hx => ?_⟩
        have h1 := hcell (i + 1) x (by simpa using hx)
        have hlk := World.block_lt_of_cell? w _ h1
        rw [World.cell?_of_block (w := w.setCell ⟨p, 0, none⟩ _) (Below.heap_alloc _ _ _ (by rw [hs]; exact hlk)), World.cell?_of_block (w := w) (Below.heap_setCell _ _ _ _ hk), show o + 1 + i = o + (i + 1) by omega]
        exact h1
      · simp at h
  · rw [Below.heap_alloc _ _ _ (by omega), Below.heap_setCell _ _ _ _ (fun h => hne (congrArg some h))]
  · have := heap_alloc_new (w.setCell ⟨p, 0, none⟩ h') (.cells #[.int .i64 0, .int .i64 0, .slice none 0 0] 28)
    rw [hs] at this
    exact this

theorem set_grown (v : World) (a : Addr) (x : Value) : v.grownBy (v.setCell a x) (some a.block) :=
  ⟨rfl, rfl, rfl, by simp, fun k _ hne => Below.heap_setCell _ _ _ _ (fun e => hne (congrArg some e))⟩

theorem grown_same {v u t : World} {q : Option Nat} (h : v.grownBy u q) (k : u.grownBy t q) : v.grownBy t q :=
  ⟨k.os.trans h.os, k.tape.trans h.tape, k.output.trans h.output, Nat.le_trans h.size k.size, fun i hi hne => (k.block i (Nat.lt_of_lt_of_le hi h.size) hne).trans (h.block i hi hne)⟩

theorem grown_drew {v u : World} {q : Option Nat} (h : v.grownBy u q) : v.grownBy u.drew q := ⟨h.os, h.tape, h.output, h.size, h.block⟩

theorem set_three_grown (v : World) (b : Nat) (x y z : Value) : v.grownBy (((v.setCell ⟨b, 0, none⟩ x).setCell ⟨b, 1, none⟩ y).setCell ⟨b, 2, none⟩ z) (some b) :=
  grown_same (grown_same (set_grown v ⟨b, 0, none⟩ x) (set_grown _ ⟨b, 1, none⟩ y)) (set_grown _ ⟨b, 2, none⟩ z)

theorem str_layer (n : Nat) : Value.string (⟨#[76]⟩ ++ ⟨(Lib.decDigits n).toArray⟩) = .string ⟨(Fm.layer n).text.toArray⟩ := by
  unfold Fm.text
  exact congrArg Value.string (ByteArray.mk_append_mk [76] (Lib.decDigits n))

theorem leaf_done {w wc : World} {p B n : Nat} {h' x y z : Value} {rest : List UInt8} (hBw : B ≤ w.heap.size) (hplt : p < w.heap.size) (hsl : SlB wc p B h' rest)
    (hp : wc.heap[p]? = some (.cells #[h'] 22 (0, 0))) (hg : w.grownBy wc (some p)) (hz : wc.heap.size = w.heap.size + 1) :
    FormedPost w p B (.layer n, rest) (.returned (.tuple #[.agg #[.int .i64 1, .int .i64 n, .slice none 0 0], (.string ⟨(Fm.layer n).text.toArray⟩), .func (.func 20) #[] #[.pointer (some ⟨wc.heap.size, 0, none⟩)]]))
      ((((wc.alloc (.cells #[.int .i64 n] 3)).setCell ⟨w.heap.size, 0, none⟩ x).setCell ⟨w.heap.size, 1, none⟩ y).setCell ⟨w.heap.size, 2, none⟩ z).drew := by
  have g1 : wc.grownBy (wc.alloc (.cells #[.int .i64 n] 3)) (some w.heap.size) := ⟨rfl, rfl, rfl, by simp, fun k hk _ => Below.heap_alloc _ _ _ hk⟩
  have g2 := set_three_grown (wc.alloc (.cells #[.int .i64 n] 3)) w.heap.size x y z
  have g3 := grown_same g1 g2
  refine ⟨_, _, h', rfl, rfl, ⟨_, rfl, by dsimp only; omega, ?_⟩, hsl.keep fun k hk _ => ?_, ?_, grown_trans hg (grown_drew g3) (.inl (Nat.le_refl _))⟩
  · exact g2.cell (a := ⟨wc.heap.size, 0, none⟩) (by simp [go_sem]) (by simp; omega)
  · exact g3.block k (by omega) (by simp; omega)
  · exact (g3.block p (by omega) (by simp; omega)).trans hp

end Go.Proofs.YtjijlkiilmbdnaaGreatDoor
