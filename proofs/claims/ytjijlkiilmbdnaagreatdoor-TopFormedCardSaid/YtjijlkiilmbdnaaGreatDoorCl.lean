/- The closures that formed makes: is a formula true of a mask? -/
import Derived.Test.YtjijlkiilmbdnaaGreatDoorHo
namespace Go.Proofs.YtjijlkiilmbdnaaGreatDoor
open Go Go.RowKit

/-- The closure's function, of what joins two. -/
def cloOf (o : Nat) : Nat := if o = 3 then 22 else if o = 4 then 23 else if o = 5 then 24 else 25

/-- The closure's function, by the formula. -/
def Fm.clo : Fm → Nat
  | .layer _ => 20
  | .not _ => 21
  | .bin o _ _ => cloOf o

/-- A closure in memory. -/
def ClRep (A : Nat → Prop) (w : World) : Fm → Value → Prop
  | .layer n, v => ∃ b, v = .func (.func 20) #[] #[.pointer (some ⟨b, 0, none⟩)] ∧ A b ∧ w.cell? ⟨b, 0, none⟩ = some (.int .i64 n)
  | .not f, v => ∃ b u, v = .func (.func 21) #[] #[.pointer (some ⟨b, 0, none⟩)] ∧ A b ∧ w.cell? ⟨b, 0, none⟩ = some u ∧ ClRep A w f u
  | .bin o f g, v => ∃ b u b' u', v = .func (.func (Fm.bin o f g).clo) #[] #[.pointer (some ⟨b, 0, none⟩), .pointer (some ⟨b', 0, none⟩)] ∧ A b ∧ A b' ∧
      w.cell? ⟨b, 0, none⟩ = some u ∧ w.cell? ⟨b', 0, none⟩ = some u' ∧ ClRep A w f u ∧ ClRep A w g u'

theorem ClRep.keep {A B : Nat → Prop} {w w' : World} (hb : ∀ k, A k → k < w.heap.size → w'.heap[k]? = w.heap[k]?) (hab : ∀ k, A k → k < w.heap.size → B k) {f : Fm} :
    ∀ {v : Value}, ClRep A w f v → ClRep B w' f v := by
  have hc : ∀ (p : Addr) (x : Value), A p.block → w.cell? p = some x → w'.cell? p = some x := fun p x hA hx => by
    have hlt := World.block_lt_of_cell? w _ hx
    rw [World.cell?_of_block (hb _ hA hlt)]; exact hx
  induction f with
  | layer n => rintro v ⟨b, hv, hA, hx⟩; exact ⟨b, hv, hab _ hA (World.block_lt_of_cell? w _ hx), hc _ _ hA hx⟩
  | not f ih => rintro v ⟨b, u, hv, hA, hx, hf⟩; exact ⟨b, u, hv, hab _ hA (World.block_lt_of_cell? w _ hx), hc _ _ hA hx, ih hf⟩
  | bin o f g ih1 ih2 =>
    rintro v ⟨b, u, b', u', hv, hA, hA', hx, hx', hf, hg⟩
    exact ⟨b, u, b', u', hv, hab _ hA (World.block_lt_of_cell? w _ hx), hab _ hA' (World.block_lt_of_cell? w _ hx'), hc _ _ hA hx, hc _ _ hA' hx', ih1 hf, ih2 hg⟩

theorem ClRep.grew {A : Nat → Prop} {B : Nat} {w w' : World} (h : Below B w w') (hB : w.heap.size ≤ B) {f : Fm} {v : Value} (hr : ClRep A w f v) : ClRep A w' f v :=
  hr.keep (fun k _ hk => h.block k (by omega)) (fun _ h _ => h)

/-- A closure is one of six functions, with what it has caught. -/
theorem ClRep.form {A : Nat → Prop} {w : World} {f : Fm} {v : Value} (hr : ClRep A w f v) : ∃ caps : Array Value, v = .func (.func f.clo) #[] caps := by
  cases f with
  | layer n => obtain ⟨b, rfl, _⟩ := hr; exact ⟨_, rfl⟩
  | not f => obtain ⟨b, u, rfl, _⟩ := hr; exact ⟨_, rfl⟩
  | bin o f g => obtain ⟨b, u, b', u', rfl, _⟩ := hr; exact ⟨_, rfl⟩

theorem clo_enters (f : Fm) (args : Array Value) (w : World) : (callFunc f.clo args).run Tryz.prog w = .ok (.enter f.clo args) w := by
  have h1 : ∀ args w, (callFunc 20 args).run Tryz.prog w = .ok (.enter 20 args) w := fun _ _ => by kernel_rfl
  have h2 : ∀ args w, (callFunc 21 args).run Tryz.prog w = .ok (.enter 21 args) w := fun _ _ => by kernel_rfl
  have h3 : ∀ args w, (callFunc 22 args).run Tryz.prog w = .ok (.enter 22 args) w := fun _ _ => by kernel_rfl
  have h4 : ∀ args w, (callFunc 23 args).run Tryz.prog w = .ok (.enter 23 args) w := fun _ _ => by kernel_rfl
  have h5 : ∀ args w, (callFunc 24 args).run Tryz.prog w = .ok (.enter 24 args) w := fun _ _ => by kernel_rfl
  have h6 : ∀ args w, (callFunc 25 args).run Tryz.prog w = .ok (.enter 25 args) w := fun _ _ => by kernel_rfl
  cases f with
  | layer n => rw [show (Fm.layer n).clo = 20 from rfl]; exact h1 args w
  | not f => rw [show (Fm.not f).clo = 21 from rfl]; exact h2 args w
  | bin o f g =>
    rw [show (Fm.bin o f g).clo = cloOf o from rfl]
    generalize hk : cloOf o = k
    unfold cloOf at hk
    split at hk
    · subst hk; exact h3 args w
    · split at hk
      · subst hk; exact h4 args w
      · split at hk
        · subst hk; exact h5 args w
        · subst hk; exact h6 args w

/-- What a closure comes to. -/
def IsSaid (m : Int) (f : Fm) : Prop := ∀ (A : Nat → Prop) (w : World) (caps : Array Value), ClRep A w f (.func (.func f.clo) #[] caps) →
  Calls Tryz.prog f.clo (#[.int .u16 m] ++ caps) w fun e w' => e = .returned (.bool (f.holds m)) ∧ Below w.heap.size w w'

theorem is_layer (m : Int) (_h0 : 0 ≤ m) (_hm : m < 65536) (n : Nat) (hn : n < 16) (w : World) (b : Nat) (hx : w.cell? ⟨b, 0, none⟩ = some (.int .i64 n)) :
    Calls Tryz.prog 20 #[.int .u16 m, .pointer (some ⟨b, 0, none⟩)] w fun e w' => e = .returned (.bool ((Fm.layer n).holds m)) ∧ Below w.heap.size w w' := by
  go_enter Tryz.func20, Tryz.ntmps20
  go_wp2_with fail
  go_ret
  exact ⟨rfl, by (repeat (first | exact Below.refl _ _ | assumption | exact below_step (by assumption) (by assumption) | (refine Below.drew ?_) | (refine below_drewN ?_ _) | (refine Below.alloc ?_ (by first | omega | (simp; done) | (simp; omega)) _) | (refine Below.setCell ?_ (by first | omega | (simp; done) | (simp; omega)) _) | (refine Below.trans ?_ (Below.mono (by assumption) (by first | omega | (simp; done) | (simp; omega))))))⟩

theorem is_not (m : Int) (f : Fm) (ih : IsSaid m f) (A : Nat → Prop) (w : World) (b : Nat) (u : Value) (hx : w.cell? ⟨b, 0, none⟩ = some u) (hf : ClRep A w f u) :
    Calls Tryz.prog 21 #[.int .u16 m, .pointer (some ⟨b, 0, none⟩)] w fun e w' => e = .returned (.bool (!f.holds m)) ∧ Below w.heap.size w w' := by
  obtain ⟨caps, rfl⟩ := hf.form
  have hf' := hid hf
  clear hf
  have hen := clo_enters f
  go_enter Tryz.func21, Tryz.ntmps21
  go_wp2_with fail
  refine (ih A _ _ hf'.out).mono ?_
  rintro e w1 ⟨rfl, hb1⟩
  go_wp2_with fail
  go_ret
  exact ⟨rfl, by (repeat (first | exact Below.refl _ _ | assumption | exact below_step (by assumption) (by assumption) | (refine Below.drew ?_) | (refine below_drewN ?_ _) | (refine Below.alloc ?_ (by first | omega | (simp; done) | (simp; omega)) _) | (refine Below.setCell ?_ (by first | omega | (simp; done) | (simp; omega)) _) | (refine Below.trans ?_ (Below.mono (by assumption) (by first | omega | (simp; done) | (simp; omega))))))⟩

theorem is_and (m : Int) (f g : Fm) (ih : IsSaid m f) (ihg : IsSaid m g) (A : Nat → Prop) (w : World) (b b' : Nat) (u u' : Value) (hx : w.cell? ⟨b, 0, none⟩ = some u) (hx' : w.cell? ⟨b', 0, none⟩ = some u') (hf : ClRep A w f u) (hg : ClRep A w g u') :
    Calls Tryz.prog 22 #[.int .u16 m, .pointer (some ⟨b, 0, none⟩), .pointer (some ⟨b', 0, none⟩)] w fun e w' => e = .returned (.bool (joinOf 3 (f.holds m) (g.holds m))) ∧ Below w.heap.size w w' := by
  obtain ⟨caps, rfl⟩ := hf.form
  obtain ⟨caps', rfl⟩ := hg.form
  have hf' := hid hf
  have hg' := hid hg
  clear hf hg
  have hen := clo_enters f
  have hen' := clo_enters g
  cases ht : f.holds m
  all_goals
    go_enter Tryz.func22, Tryz.ntmps22
    go_wp2_with fail
    refine (ih A _ _ hf'.out).mono ?_
    rintro e w1 ⟨rfl, hb1⟩
    have kx := keepc hb1 hx'
    rw [ht]
    go_wp2_with fail
    try
      refine (ihg A _ _ (hg'.out.grew hb1 (Nat.le_refl _))).mono ?_
      rintro e w2 ⟨rfl, hb2⟩
      go_wp2_with fail
    go_ret
    exact ⟨rfl, by (repeat (first | exact Below.refl _ _ | assumption | exact below_step (by assumption) (by assumption) | (refine Below.drew ?_) | (refine below_drewN ?_ _) | (refine Below.alloc ?_ (by first | omega | (simp; done) | (simp; omega)) _) | (refine Below.setCell ?_ (by first | omega | (simp; done) | (simp; omega)) _) | (refine Below.trans ?_ (Below.mono (by assumption) (by first | omega | (simp; done) | (simp; omega))))))⟩

theorem is_minus (m : Int) (f g : Fm) (ih : IsSaid m f) (ihg : IsSaid m g) (A : Nat → Prop) (w : World) (b b' : Nat) (u u' : Value) (hx : w.cell? ⟨b, 0, none⟩ = some u) (hx' : w.cell? ⟨b', 0, none⟩ = some u') (hf : ClRep A w f u) (hg : ClRep A w g u') :
    Calls Tryz.prog 23 #[.int .u16 m, .pointer (some ⟨b, 0, none⟩), .pointer (some ⟨b', 0, none⟩)] w fun e w' => e = .returned (.bool (joinOf 4 (f.holds m) (g.holds m))) ∧ Below w.heap.size w w' := by
  obtain ⟨caps, rfl⟩ := hf.form
  obtain ⟨caps', rfl⟩ := hg.form
  have hf' := hid hf
  have hg' := hid hg
  clear hf hg
  have hen := clo_enters f
  have hen' := clo_enters g
  cases ht : f.holds m
  all_goals
    go_enter Tryz.func23, Tryz.ntmps23
    go_wp2_with fail
    refine (ih A _ _ hf'.out).mono ?_
    rintro e w1 ⟨rfl, hb1⟩
    have kx := keepc hb1 hx'
    rw [ht]
    go_wp2_with fail
    try
      refine (ihg A _ _ (hg'.out.grew hb1 (Nat.le_refl _))).mono ?_
      rintro e w2 ⟨rfl, hb2⟩
      go_wp2_with fail
    go_ret
    exact ⟨rfl, by (repeat (first | exact Below.refl _ _ | assumption | exact below_step (by assumption) (by assumption) | (refine Below.drew ?_) | (refine below_drewN ?_ _) | (refine Below.alloc ?_ (by first | omega | (simp; done) | (simp; omega)) _) | (refine Below.setCell ?_ (by first | omega | (simp; done) | (simp; omega)) _) | (refine Below.trans ?_ (Below.mono (by assumption) (by first | omega | (simp; done) | (simp; omega))))))⟩

theorem is_or (m : Int) (f g : Fm) (ih : IsSaid m f) (ihg : IsSaid m g) (A : Nat → Prop) (w : World) (b b' : Nat) (u u' : Value) (hx : w.cell? ⟨b, 0, none⟩ = some u) (hx' : w.cell? ⟨b', 0, none⟩ = some u') (hf : ClRep A w f u) (hg : ClRep A w g u') :
    Calls Tryz.prog 25 #[.int .u16 m, .pointer (some ⟨b, 0, none⟩), .pointer (some ⟨b', 0, none⟩)] w fun e w' => e = .returned (.bool (joinOf 6 (f.holds m) (g.holds m))) ∧ Below w.heap.size w w' := by
  obtain ⟨caps, rfl⟩ := hf.form
  obtain ⟨caps', rfl⟩ := hg.form
  have hf' := hid hf
  have hg' := hid hg
  clear hf hg
  have hen := clo_enters f
  have hen' := clo_enters g
  cases ht : f.holds m
  all_goals
    go_enter Tryz.func25, Tryz.ntmps25
    go_wp2_with fail
    refine (ih A _ _ hf'.out).mono ?_
    rintro e w1 ⟨rfl, hb1⟩
    have kx := keepc hb1 hx'
    rw [ht]
    go_wp2_with fail
    try
      refine (ihg A _ _ (hg'.out.grew hb1 (Nat.le_refl _))).mono ?_
      rintro e w2 ⟨rfl, hb2⟩
      go_wp2_with fail
    go_ret
    exact ⟨rfl, by (repeat (first | exact Below.refl _ _ | assumption | exact below_step (by assumption) (by assumption) | (refine Below.drew ?_) | (refine below_drewN ?_ _) | (refine Below.alloc ?_ (by first | omega | (simp; done) | (simp; omega)) _) | (refine Below.setCell ?_ (by first | omega | (simp; done) | (simp; omega)) _) | (refine Below.trans ?_ (Below.mono (by assumption) (by first | omega | (simp; done) | (simp; omega))))))⟩

set_option maxRecDepth 100000 in
set_option maxHeartbeats 1000000 in
theorem is_xor (m : Int) (f g : Fm) (ih : IsSaid m f) (ihg : IsSaid m g) (A : Nat → Prop) (w : World) (b b' : Nat) (u u' : Value) (hx : w.cell? ⟨b, 0, none⟩ = some u) (hx' : w.cell? ⟨b', 0, none⟩ = some u') (hf : ClRep A w f u) (hg : ClRep A w g u') :
    Calls Tryz.prog 24 #[.int .u16 m, .pointer (some ⟨b, 0, none⟩), .pointer (some ⟨b', 0, none⟩)] w fun e w' => e = .returned (.bool (joinOf 5 (f.holds m) (g.holds m))) ∧ Below w.heap.size w w' := by
  obtain ⟨caps, rfl⟩ := hf.form
  obtain ⟨caps', rfl⟩ := hg.form
  have hf' := hid hf
  have hg' := hid hg
  clear hf hg
  have hen := clo_enters f
  have hen' := clo_enters g
  go_enter Tryz.func24, Tryz.ntmps24
  go_wp2_with fail
  go_region_held3 (fun w' => Below w.heap.size w w' ∧ w'.cell? ⟨b, 0, none⟩ = some (.func (.func f.clo) #[] caps) ∧ w'.cell? ⟨b', 0, none⟩ = some (.func (.func g.clo) #[] caps'))
    (first
      | exact ⟨(Below.refl _ _).drew, hx, hx'⟩
      | (go_split_ands
         refine ⟨?_, ?_, ?_⟩
         · assumption
         · exact keepc (by assumption) hx
         · exact keepc (by assumption) hx'))
    (first
      | ((refine Calls.mono (ih A _ _ ?_) ?_); go_must ((go_split_ands; exact hf'.out.grew (B := w.heap.size) (by assumption) (Nat.le_refl _)); rintro e w1 ⟨rfl, hb1⟩; go_split_ands; have k1 := below_step (w := w) (by assumption) hb1))
      | ((refine Calls.mono (ihg A _ _ ?_) ?_); go_must ((go_split_ands; exact hg'.out.grew (B := w.heap.size) (by assumption) (Nat.le_refl _)); rintro e w2 ⟨rfl, hb2⟩; go_split_ands; have k2 := below_step (w := w) (by assumption) hb2)))
  all_goals
    go_wp2_with fail
    go_ret
    exact ⟨rfl, k2⟩

theorem is_any (m : Int) (h0 : 0 ≤ m) (hm : m < 65536) (f : Fm) (hok : f.ok) : IsSaid m f := by
  induction f with
  | layer n =>
    rintro A w caps ⟨b, hv, hA, hx⟩
    simp at hv; obtain ⟨_, rfl⟩ := hv
    exact is_layer m h0 hm n hok w b hx
  | not f ih =>
    rintro A w caps ⟨b, u, hv, hA, hx, hf⟩
    simp at hv; obtain ⟨_, rfl⟩ := hv
    exact is_not m f (ih hok) A w b u hx hf
  | bin o f g ih ihg =>
    rintro A w caps ⟨b, u, b', u', hv, hA, hA', hx, hx', hf, hg⟩
    simp at hv; obtain rfl := hv
    obtain ⟨h3, h6, hof, hog⟩ := hok
    obtain rfl | rfl | rfl | rfl : o = 3 ∨ o = 4 ∨ o = 5 ∨ o = 6 := by omega
    · exact is_and m f g (ih hof) (ihg hog) A w b b' u u' hx hx' hf hg
    · exact is_minus m f g (ih hof) (ihg hog) A w b b' u u' hx hx' hf hg
    · exact is_xor m f g (ih hof) (ihg hog) A w b b' u u' hx hx' hf hg
    · exact is_or m f g (ih hof) (ihg hog) A w b b' u u' hx hx' hf hg

end Go.Proofs.YtjijlkiilmbdnaaGreatDoor
