/- Plain law of spoken: the layers that stand in a formula's text are its layers; its parts are counted by their signs. -/
import Derived.Test.YtjijlkiilmbdnaaGreatDoorBe
import Derived.Test.YtjijlkiilmbdnaaGreatDoorLy
import Derived.Test.YtjijlkiilmbdnaaGreatDoorPl
import Derived.Lib.IndexAny
import Derived.Lib.CountLaws
namespace Go.Proofs.YtjijlkiilmbdnaaGreatDoor
open Go Go.RowKit

/-- Two rows that grow and hold the same are the same. -/
theorem strict_ext : ∀ {a b : List Int}, a.Pairwise (· < ·) → b.Pairwise (· < ·) → (∀ x, x ∈ a ↔ x ∈ b) → a = b
  | [], [], _, _, _ => rfl
  | [], y :: b, _, _, h => absurd ((h y).2 (by simp)) (by simp)
  | x :: a, [], _, _, h => absurd ((h x).1 (by simp)) (by simp)
  | x :: a, y :: b, ha, hb, h => by
    rw [List.pairwise_cons] at ha hb
    have hxy : x = y := by
      have h1 := (h x).1 (by simp)
      have h2 := (h y).2 (by simp)
      rcases List.mem_cons.1 h1 with h1 | h1
      · exact h1
      · rcases List.mem_cons.1 h2 with h2 | h2
        · exact h2.symm
        · have := hb.1 x h1
          have := ha.1 y h2
          omega
    subst hxy
    congr 1
    refine strict_ext ha.2 hb.2 fun z => ⟨fun hz => ?_, fun hz => ?_⟩
    · rcases List.mem_cons.1 ((h z).1 (List.mem_cons_of_mem _ hz)) with e | h'
      · have := ha.1 z hz; omega
      · exact h'
    · rcases List.mem_cons.1 ((h z).2 (List.mem_cons_of_mem _ hz)) with e | h'
      · have := hb.1 z hz; omega
      · exact h'

theorem compact_upto (d : Array Int) (hs : ∀ i j, i ≤ j → j < d.size → d[i]! ≤ d[j]!) : ∀ m, m ≤ d.size →
    (Lib.compactUpTo d m).Pairwise (· < ·) ∧ ∀ x, x ∈ Lib.compactUpTo d m ↔ ∃ j, j < m ∧ d[j]! = x := by
  intro m
  induction m with
  | zero => intro _; simp [Lib.compactUpTo]
  | succ m ih =>
    intro hm
    obtain ⟨h1, h2⟩ := ih (by omega)
    rw [Lib.compactUpTo_succ]
    by_cases hk : Lib.keeps d m = true
    · rw [if_pos hk]
      refine ⟨List.pairwise_append.2 ⟨h1, by simp, fun a ha b hb => ?_⟩, fun x => ?_⟩
      · obtain ⟨j, hj, rfl⟩ := (h2 a).1 ha
        obtain rfl : b = d[m]! := by simpa using hb
        have e1 := hs j (m - 1) (by omega) (by omega)
        have e2 := hs (m - 1) m (by omega) (by omega)
        have e3 : d[m]! ≠ d[m - 1]! := by
          simp only [Lib.keeps, decide_eq_true_eq] at hk
          exact hk.resolve_left (by omega)
        omega
      · rw [List.mem_append, h2]
        constructor
        · rintro (⟨j, hj, rfl⟩ | hx)
          · exact ⟨j, by omega, rfl⟩
          · obtain rfl : x = d[m]! := by simpa using hx
            exact ⟨m, by omega, rfl⟩
        · rintro ⟨j, hj, rfl⟩
          by_cases e : j = m
          · subst e; right; simp
          · left; exact ⟨j, by omega, rfl⟩
    · rw [if_neg hk, List.append_nil]
      refine ⟨h1, fun x => (h2 x).trans ⟨fun ⟨j, hj, e⟩ => ⟨j, by omega, e⟩, fun ⟨j, hj, e⟩ => ?_⟩⟩
      by_cases e2 : j = m
      · subst e2
        simp only [Lib.keeps, decide_eq_true_eq, not_or, ne_eq, Classical.not_not] at hk
        exact ⟨j - 1, by omega, hk.2.symm.trans e⟩
      · exact ⟨j, by omega, e⟩

/-- Sorted, each once: it grows, and holds the same. -/
theorem onceOf_law (zs : List Int) : (onceOf zs).Pairwise (· < ·) ∧ ∀ x, x ∈ onceOf zs ↔ x ∈ zs := by
  unfold onceOf Lib.compact
  have hp : (zs.mergeSort fun x y => decide (x ≤ y)).Pairwise (fun a b => decide (a ≤ b) = true) :=
    List.pairwise_mergeSort (fun a b c => by simp; omega) (fun a b => by simp; omega) zs
  have hmem : ∀ x, x ∈ (zs.mergeSort fun x y => decide (x ≤ y)) ↔ x ∈ zs := fun x => List.mem_mergeSort
  generalize (zs.mergeSort fun x y => decide (x ≤ y)) = ys at *
  have hs : ∀ i j, i ≤ j → j < ys.toArray.size → ys.toArray[i]! ≤ ys.toArray[j]! := by
    intro i j hij hj
    have hj' : j < ys.length := by simpa using hj
    rw [getElem!_pos ys.toArray i (by omega), getElem!_pos ys.toArray j hj]
    simp only [List.getElem_toArray]
    by_cases e : i = j
    · subst e; exact Int.le_refl _
    · have := List.pairwise_iff_getElem.1 hp i j (by omega) hj' (by omega)
      simpa using this
  obtain ⟨h1, h2⟩ := compact_upto ys.toArray hs ys.length (by simp)
  refine ⟨h1, fun x => (h2 x).trans ?_⟩
  rw [← hmem]
  constructor
  · rintro ⟨j, hj, rfl⟩
    rw [getElem!_pos ys.toArray j (by simpa using hj)]
    simp
  · intro hx
    obtain ⟨j, hj, e⟩ := List.getElem_of_mem hx
    exact ⟨j, hj, by rw [getElem!_pos ys.toArray j (by simpa using hj)]; simpa using e⟩

/-- What stands behind a layer's number. -/
def Term (c : UInt8) : Prop := c = 41 ∨ c = 38 ∨ c = 45 ∨ c = 94 ∨ c = 124

/-- A word stands in a text, and such a sign behind it. -/
def Occ (word s : List UInt8) : Prop := ∃ pre c post, s = pre ++ (word ++ c :: post) ∧ Term c

theorem occ_cons {x : UInt8} {wd s : List UInt8} (hx : x ≠ 76) : Occ (76 :: wd) (x :: s) ↔ Occ (76 :: wd) s := by
  constructor
  · rintro ⟨pre, c, post, h, hc⟩
    cases pre with
    | nil => simp at h; exact absurd h.1 hx
    | cons y pre => simp at h; exact ⟨pre, c, post, by simp [h.2], hc⟩
  · rintro ⟨pre, c, post, rfl, hc⟩
    exact ⟨x :: pre, c, post, by simp, hc⟩

theorem occ_app {wd : List UInt8} : ∀ {ds s : List UInt8}, (∀ x ∈ ds, x ≠ 76) → (Occ (76 :: wd) (ds ++ s) ↔ Occ (76 :: wd) s)
  | [], _, _ => Iff.rfl
  | d :: ds, s, h => (occ_cons (h d (by simp))).trans (occ_app (fun x hx => h x (by simp [hx])))

theorem pre_eq {P : UInt8 → Prop} : ∀ {ds es : List UInt8} {c c' : UInt8} {p p' : List UInt8}, (∀ x ∈ ds, P x) → (∀ x ∈ es, P x) → ¬ P c → ¬ P c' → ds ++ c :: p = es ++ c' :: p' → ds = es
  | [], [], _, _, _, _, _, _, _, _, _ => rfl
  | [], e :: es, c, _, _, _, _, h2, h3, _, h => by simp at h; exact absurd (h2 e (by simp)) (h.1 ▸ h3)
  | d :: ds, [], _, c', _, _, h1, _, _, h4, h => by simp at h; exact absurd (h1 d (by simp)) (h.1 ▸ h4)
  | d :: ds, e :: es, _, _, _, _, h1, h2, h3, h4, h => by
    simp only [List.cons_append, List.cons.injEq] at h
    rw [h.1, pre_eq (fun x hx => h1 x (by simp [hx])) (fun x hx => h2 x (by simp [hx])) h3 h4 h.2]

theorem digs_are : ∀ n, n < 16 → ∀ x ∈ Lib.decDigits n, 48 ≤ x.toNat ∧ x.toNat ≤ 57 := by decide +kernel
theorem digs_inj : ∀ l, l < 16 → ∀ n, n < 16 → Lib.decDigits l = Lib.decDigits n → l = n := by decide +kernel

theorem digs_no76 {n : Nat} (hn : n < 16) : ∀ x ∈ Lib.decDigits n, x ≠ 76 := fun x hx e => by
  have := digs_are n hn x hx
  subst e
  exact absurd this.2 (by decide)

theorem term_not {c : UInt8} (h : Term c) : ¬ (48 ≤ c.toNat ∧ c.toNat ≤ 57) := by
  rcases h with rfl | rfl | rfl | rfl | rfl <;> decide
theorem term_no76 {c : UInt8} (h : Term c) : c ≠ 76 := by
  rcases h with rfl | rfl | rfl | rfl | rfl <;> decide

theorem sign_term (o : Nat) : Term (signOf o) := by
  unfold signOf Term
  split
  · simp
  · split
    · simp
    · split <;> simp

/-- A layer stands in a formula's text just where it is one of its layers. -/
theorem text_occ (l : Nat) (hl : l < 16) (f : Fm) (hok : f.ok) : ∀ (c : UInt8) (rest : List UInt8), Term c → (Occ (76 :: Lib.decDigits l) (f.text ++ c :: rest) ↔ (l : Int) ∈ laysOf f.all ∨ Occ (76 :: Lib.decDigits l) (c :: rest)) := by
  induction f with
  | layer n =>
    intro c rest hc
    have hn : n < 16 := hok
    have e1 : laysOf (Fm.layer n).all = [(n : Int)] := by simp [Fm.all, laysOf, Fm.op, Fm.lay]
    rw [e1]
    simp only [Fm.text, List.mem_singleton, List.cons_append]
    constructor
    · rintro ⟨pre, c', post, h, hc'⟩
      cases pre with
      | nil =>
        simp only [List.nil_append, List.cons_append, List.cons.injEq, true_and] at h
        have := pre_eq (P := fun x => 48 ≤ x.toNat ∧ x.toNat ≤ 57) (digs_are n hn) (digs_are l hl) (term_not hc) (term_not hc') h
        left
        have := digs_inj n hn l hl this
        omega
      | cons y pre =>
        simp only [List.cons_append, List.cons.injEq] at h
        right
        exact (occ_app (digs_no76 hn)).1 ⟨pre, c', post, by simpa using h.2, hc'⟩
    · rintro (e | ⟨pre, c', post, h, hc'⟩)
      · obtain rfl : l = n := by omega
        exact ⟨[], c, rest, rfl, hc⟩
      · exact ⟨76 :: (Lib.decDigits n ++ pre), c', post, by rw [h]; simp, hc'⟩
  | not f ih =>
    intro c rest hc
    have e1 : laysOf (Fm.not f).all = laysOf f.all := by rw [Fm.all, laysOf_cons]; simp [Fm.op]
    rw [e1]
    simp only [Fm.text, List.cons_append]
    rw [occ_cons (by decide)]
    exact ih hok c rest hc
  | bin o f g ih ihg =>
    intro c rest hc
    obtain ⟨h3, h6, hof, hog⟩ := hok
    have e1 : laysOf (Fm.bin o f g).all = laysOf f.all ++ laysOf g.all := by
      rw [Fm.all, laysOf_cons, laysOf_append]
      have : (o == 1) = false := by simp; omega
      simp [Fm.op, this]
    rw [e1, List.mem_append]
    simp only [Fm.text, List.cons_append, List.append_assoc, List.nil_append]
    rw [occ_cons (by decide), ih hof _ _ (sign_term o), occ_cons (term_no76 (sign_term o)), ihg hog _ _ (by simp [Term]), occ_cons (by decide), or_assoc]

theorem occ_at {s sub : List UInt8} {i : Nat} (hi : i ≤ s.length) (h : Lib.occAt s sub i = true) : ∃ pre post, pre.length = i ∧ s = pre ++ (sub ++ post) := by
  obtain ⟨t, ht⟩ := List.isPrefixOf_iff_prefix.1 h
  exact ⟨s.take i, t, by rw [List.length_take]; omega, by rw [ht, List.take_append_drop]⟩

theorem at_occ {sub pre post : List UInt8} : Lib.occAt (pre ++ (sub ++ post)) sub pre.length = true := by
  unfold Lib.occAt
  rw [List.drop_left]
  exact List.isPrefixOf_iff_prefix.2 ⟨post, rfl⟩

theorem contains_law (s sub : List UInt8) : Lib.contains s sub = true ↔ ∃ pre post, s = pre ++ (sub ++ post) := by
  unfold Lib.contains
  rcases Lib.index_spec s sub with ⟨h1, h2⟩ | ⟨i, h1, h2, h3, _⟩
  · rw [h1]
    refine ⟨fun h => by simp at h, ?_⟩
    rintro ⟨pre, post, rfl⟩
    have := h2 pre.length (by simp)
    rw [at_occ] at this
    cases this
  · rw [h1]
    refine ⟨fun _ => ?_, fun _ => by simp⟩
    obtain ⟨pre, post, _, e⟩ := occ_at h2 h3
    exact ⟨pre, post, e⟩

theorem any_law (chars : List UInt8) : ∀ s : List UInt8, Lib.containsAny s chars = true ↔ ∃ b, b ∈ s ∧ b ∈ chars
  | [] => by simp [Lib.containsAny, Lib.indexAny]
  | b :: l => by
    have ih := any_law chars l
    have hg := Lib.indexAny_ge chars l
    unfold Lib.containsAny at ih ⊢
    rw [decide_eq_true_eq] at ih ⊢
    unfold Lib.indexAny
    by_cases hb : chars.contains b = true
    · rw [if_pos hb]
      exact ⟨fun _ => ⟨b, by simp, by simpa using hb⟩, fun _ => Int.le_refl _⟩
    · rw [if_neg hb]
      have hb' : b ∉ chars := by simpa using hb
      have e : (∃ c, c ∈ b :: l ∧ c ∈ chars) ↔ ∃ c, c ∈ l ∧ c ∈ chars := by
        constructor
        · rintro ⟨c, hc, h2⟩
          rcases List.mem_cons.1 hc with rfl | hc
          · exact absurd h2 hb'
          · exact ⟨c, hc, h2⟩
        · rintro ⟨c, hc, h2⟩
          exact ⟨c, List.mem_cons_of_mem _ hc, h2⟩
      rw [e, ← ih]
      split
      · rename_i h; have := beq_iff_eq.1 h; omega
      · rename_i h
        have : ¬ Lib.indexAny l chars = -1 := fun e => h (by rw [e]; rfl)
        omega

/-- The signs behind a word are those that stand behind it. -/
theorem behind_mem {wd : List UInt8} (hwd : ∀ x ∈ wd, x ≠ 76) : ∀ (n : Nat) (s : List UInt8), s.length < n → ∀ b, b ∈ behindOf (76 :: wd) n s ↔ ∃ pre post, s = pre ++ ((76 :: wd) ++ b :: post) := by
  intro n
  induction n with
  | zero => intro s h; omega
  | succ n ih =>
    intro s hs b
    simp only [behindOf]
    rcases Lib.index_spec s (76 :: wd) with ⟨h1, h2⟩ | ⟨i, h1, h2, h3, h4⟩
    · rw [h1, if_pos (by decide)]
      refine ⟨fun h => by simp at h, ?_⟩
      rintro ⟨pre, post, rfl⟩
      have := h2 pre.length (by simp)
      rw [at_occ] at this
      cases this
    · rw [h1, if_neg (by omega), Int.toNat_natCast]
      obtain ⟨A, t, hA, rfl⟩ := occ_at h2 h3
      have e1 : (A ++ (76 :: wd ++ t)).drop (i + (76 :: wd).length) = t := by
        rw [← hA, ← List.append_assoc, ← List.length_append, List.drop_left]
      rw [e1, List.mem_append, ih t (by simp at hs; omega)]
      constructor
      · rintro (h | ⟨pre, post, rfl⟩)
        · cases t with
          | nil => simp at h
          | cons c t =>
            obtain rfl : b = c := by simpa using h
            exact ⟨A, t, rfl⟩
        · exact ⟨A ++ (76 :: wd ++ pre), post, by simp⟩
      · rintro ⟨pre, post, e⟩
        rcases List.append_eq_append_iff.1 e with ⟨a', rfl, h5⟩ | ⟨c', rfl, h5⟩
        · rcases List.append_eq_append_iff.1 h5 with ⟨a2, h6, h7⟩ | ⟨c2, h6, h7⟩
          · right; exact ⟨a2, post, h7⟩
          · cases a' with
            | nil =>
              rw [List.nil_append] at h6
              subst h6
              have h8 := List.append_cancel_left h7
              left
              rw [← h8]
              simp
            | cons y a' =>
              simp only [List.cons_append, List.cons.injEq] at h6
              cases c2 with
              | nil => right; exact ⟨[], post, by simpa using h7.symm⟩
              | cons z c2 =>
                simp only [List.cons_append, List.cons.injEq] at h7
                exact absurd h7.1.symm (hwd z (by rw [h6.2]; simp))
        · cases c' with
          | nil =>
            rw [List.nil_append] at h5
            have h8 := List.append_cancel_left h5
            left
            rw [← h8]
            simp
          | cons y c' =>
            have h9 := h4 pre.length (by rw [← hA]; simp)
            rw [e, at_occ] at h9
            cases h9

/-- Does a layer stand in a formula's text? -/
def standsIn (f : Fm) (l : Nat) : Bool := Lib.contains (f.text ++ [41]) (76 :: (Lib.decDigits l ++ [41]))
def standsBy (f : Fm) (l : Nat) : Bool := Lib.containsAny (behindOf (76 :: Lib.decDigits l) (f.text.length + 1) f.text) [38, 45, 94, 124]
def stands (f : Fm) (l : Nat) : Bool := standsIn f l || standsBy f l
def dueUpTo (f : Fm) (k : Nat) : List Int := ((List.range k).filter (stands f)).map (fun l : Nat => (l : Int))

theorem stands_occ (f : Fm) (l : Nat) (hl : l < 16) : stands f l = true ↔ Occ (76 :: Lib.decDigits l) (f.text ++ [41]) := by
  unfold stands standsIn standsBy
  rw [Bool.or_eq_true, contains_law, any_law]
  constructor
  · rintro (⟨pre, post, e⟩ | ⟨b, h1, h2⟩)
    · exact ⟨pre, 41, post, by rw [e]; simp, .inl rfl⟩
    · obtain ⟨pre, post, e⟩ := (behind_mem (digs_no76 hl) _ _ (by omega) b).1 h1
      refine ⟨pre, b, post ++ [41], by rw [e]; simp, ?_⟩
      simp only [List.mem_cons, List.not_mem_nil, or_false] at h2
      exact .inr h2
  · rintro ⟨pre, c, post, e, hc⟩
    by_cases h41 : c = 41
    · subst h41; left; exact ⟨pre, post, by rw [e]; simp⟩
    · right
      have hc' := hc.resolve_left h41
      have hp : post ≠ [] := by
        rintro rfl
        have h3 : f.text ++ [41] = (pre ++ (76 :: Lib.decDigits l)) ++ [c] := by rw [e]; simp
        have h1 := (List.append_inj' h3 rfl).2
        simp at h1
        exact h41 h1.symm
      obtain ⟨q, z, rfl⟩ : ∃ q z, post = q ++ [z] := ⟨post.dropLast, post.getLast hp, (List.dropLast_concat_getLast hp).symm⟩
      have h2 : f.text = pre ++ ((76 :: Lib.decDigits l) ++ c :: q) := by
        have h3 : f.text ++ [41] = (pre ++ ((76 :: Lib.decDigits l) ++ c :: q)) ++ [z] := by rw [e]; simp
        exact (List.append_inj' h3 rfl).1
      refine ⟨c, (behind_mem (digs_no76 hl) _ _ (by omega) c).2 ⟨pre, q, h2⟩, ?_⟩
      simp only [List.mem_cons, List.not_mem_nil, or_false]
      exact hc'

theorem lays_lt (f : Fm) (hok : f.ok) : ∀ x ∈ laysOf f.all, ∃ l : Nat, l < 16 ∧ x = l := by
  induction f with
  | layer n => intro x hx; simp [Fm.all, laysOf, Fm.op, Fm.lay] at hx; exact ⟨n, hok, hx⟩
  | not f ih =>
    intro x hx
    rw [Fm.all, laysOf_cons] at hx
    simp [Fm.op] at hx
    exact ih hok x hx
  | bin o f g ih ihg =>
    obtain ⟨h3, h6, hof, hog⟩ := hok
    intro x hx
    have : (o == 1) = false := by simp; omega
    rw [Fm.all, laysOf_cons, laysOf_append] at hx
    simp only [Fm.op, this, Bool.false_eq_true, if_false, List.nil_append, List.mem_append] at hx
    exact hx.elim (ih hof x) (ihg hog x)

/-- The layers that stand in the text are the formula's, sorted, each once. -/
theorem due_law (f : Fm) (hok : f.ok) : onceOf (laysOf f.all) = dueUpTo f 16 := by
  obtain ⟨h1, h2⟩ := onceOf_law (laysOf f.all)
  refine strict_ext h1 ?_ fun x => ?_
  · unfold dueUpTo
    rw [List.pairwise_map]
    exact (List.Pairwise.imp (fun {a b : Nat} (h : a < b) => (by omega : (a : Int) < b)) (List.Pairwise.filter _ (List.pairwise_lt_range)))
  · rw [h2]
    unfold dueUpTo
    simp only [List.mem_map, List.mem_filter, List.mem_range]
    have key : ∀ l, l < 16 → (stands f l = true ↔ (l : Int) ∈ laysOf f.all) := fun l hl => by
      rw [stands_occ f l hl, text_occ l hl f hok 41 [] (.inl rfl)]
      refine ⟨fun h => h.resolve_right ?_, .inl⟩
      rintro ⟨pre, c, post, e, _⟩
      have := congrArg List.length e
      simp at this
      omega
    constructor
    · intro hx
      obtain ⟨l, hl, rfl⟩ := lays_lt f hok x hx
      exact ⟨l, ⟨hl, (key l hl).2 hx⟩, rfl⟩
    · rintro ⟨l, ⟨hl, hs⟩, rfl⟩
      exact (key l hl).1 hs

/-- The parts of a formula, counted in its text. -/
theorem parts_law (f : Fm) (hok : f.ok) : f.text.count 76 + f.text.count 33 + f.text.count 40 = f.parts := by
  have hd : ∀ n, n < 16 → (Lib.decDigits n).count 76 = 0 ∧ (Lib.decDigits n).count 33 = 0 ∧ (Lib.decDigits n).count 40 = 0 := by decide +kernel
  induction f with
  | layer n =>
    obtain ⟨h1, h2, h3⟩ := hd n hok
    simp [Fm.text, Fm.parts, h1, h2, h3]
  | not f ih =>
    have := ih hok
    simp [Fm.text, Fm.parts]
    omega
  | bin o f g ih ihg =>
    obtain ⟨h3, h6, hof, hog⟩ := hok
    have h1 := ih hof
    have h2 := ihg hog
    have hs : (signOf o == 76) = false ∧ (signOf o == 33) = false ∧ (signOf o == 40) = false := by
      unfold signOf
      split
      · decide
      · split
        · decide
        · split <;> decide
    obtain ⟨s1, s2, s3⟩ := hs
    simp [Fm.text, Fm.parts, List.count_cons, List.count_append, s1, s2, s3]
    omega

end Go.Proofs.YtjijlkiilmbdnaaGreatDoor
