/- behind: the signs right behind a word. -/
import Derived.Test.YtjijlkiilmbdnaaGreatDoorFw
import Derived.Test.YtjijlkiilmbdnaaGreatDoorShelf
namespace Go.Proofs.YtjijlkiilmbdnaaGreatDoor
open Go Go.RowKit

/-- The signs that stand right behind a word. -/
def behindOf (word : List UInt8) : Nat → List UInt8 → List UInt8
  | 0, _ => []
  | n + 1, s => if Lib.index s word < 0 then [] else (s.drop ((Lib.index s word).toNat + word.length)).take 1 ++ behindOf word n (s.drop ((Lib.index s word).toNat + word.length))

theorem behindOf_fuel (word : List UInt8) (hw : 1 ≤ word.length) : ∀ (n m : Nat) (s : List UInt8), s.length < n → s.length < m → behindOf word n s = behindOf word m s := by
  intro n
  induction n with
  | zero => intro m s h; omega
  | succ n ih =>
    intro m s h1 h2
    cases m with
    | zero => omega
    | succ m =>
      simp only [behindOf]
      by_cases h : Lib.index s word < 0
      · simp [h]
      · simp only [h, if_false]
        congr 1
        by_cases h0 : s.length = 0
        · have : s = [] := List.length_eq_zero_iff.1 h0
          subst this
          simp [Lib.index] at h
          exact absurd h (by cases word <;> simp_all)
        · exact ih m _ (by rw [List.length_drop]; omega) (by rw [List.length_drop]; omega)

theorem index_fits (s sub : List UInt8) (h : ¬ Lib.index s sub < 0) : (Lib.index s sub).toNat + sub.length ≤ s.length := by
  induction s with
  | nil => cases sub <;> simp [Lib.index] at h ⊢
  | cons b l ih =>
    unfold Lib.index at h ⊢
    split
    · rename_i hp
      have := (List.isPrefixOf_iff_prefix.1 hp).length_le
      simpa using this
    · split
      · rename_i h1 h2; simp [h1, h2] at h
      · rename_i h1 h2
        have h3 := Lib.index_ge l sub
        have h4 : ¬ Lib.index l sub < 0 := by simp at h2; omega
        have := ih h4
        simp only [List.length_cons]
        omega

theorem str_drop (s : List UInt8) (k : Nat) : (⟨s.toArray⟩ : ByteArray).extract k s.length = ⟨(s.drop k).toArray⟩ := by
  apply ByteArray.ext
  simp [ByteArray.data_extract]
  exact List.take_of_length_le (by simp)

theorem str_head (c : UInt8) (s : List UInt8) : (⟨(c :: s).toArray⟩ : ByteArray).extract 0 1 = ⟨#[c]⟩ := by
  apply ByteArray.ext
  simp [ByteArray.data_extract]

def strLen (v : Value) : Nat := match v with | .string s => s.size | _ => 0

set_option maxRecDepth 100000 in
theorem behind_any (s word : List UInt8) (hs : s.length ≤ 8192) (hw : 1 ≤ word.length) (hw2 : word.length ≤ 100) (w : World) (m : Int) (hm : w.cell? ⟨0, 0, none⟩ = some (.int .i64 m)) :
    Calls Tryz.prog 15 #[.string ⟨s.toArray⟩, .string ⟨word.toArray⟩] w fun e w' => e = .returned (.string ⟨(behindOf word (s.length + 1) s).toArray⟩) ∧ w' = w := by
  go_enter Tryz.func15, Tryz.ntmps15
  go_wp2_with fail
  refine wp_loop (fun a W => ∃ (u out : List UInt8), u.length ≤ s.length ∧ out.length + u.length ≤ s.length ∧ out ++ behindOf word (u.length + 1) u = behindOf word (s.length + 1) s ∧ ∃ x6 x7 x8 x9 x10 x11 x12 x13 x14 x15 x16 x17 x18 x19 x20 x21 x22 x23 x24 : Value, a = { tmps := #[.string ⟨u.toArray⟩, .string ⟨word.toArray⟩, undef, undef, .string ⟨#[]⟩, .string ⟨out.toArray⟩, x6, x7, x8, x9, x10, x11, x12, x13, x14, x15, x16, x17, x18, x19, x20, x21, x22, x23, x24], defers := [] } ∧ W = w) (fun a _ => strLen (a.tmps.getD 0 undef)) ⟨s, [], Nat.le_refl _, by simp, rfl, _, _, _, _, _, _, _, _, _, _, _, _, _, _, _, _, _, _, _, rfl, rfl⟩ ?_
  rintro a W ⟨u, out, hu, hou, hb, x6, x7, x8, x9, x10, x11, x12, x13, x14, x15, x16, x17, x18, x19, x20, x21, x22, x23, x24, rfl, rfl⟩
  have hix := Lib.index_ge u word
  have hfit := index_fits u word
  rw [behindOf] at hb
  by_cases h0 : Lib.index u word < 0
  · rw [if_pos h0, List.append_nil] at hb
    have hd : decide (Lib.index u word < 0) = true := by simpa using h0
    go_wp2_with (go_at_call 36; refine (Tryz.strings_Index ⟨u.toArray⟩ ⟨word.toArray⟩ m _ (by show u.length < _; omega) hm).mono ?_; rintro e w1 ⟨rfl, rfl⟩)
    subst hb
    exact bodyPost_ret (v := .string ⟨(behindOf word (s.length + 1) s).toArray⟩) (by simp [results, Tryz.results15, go_sem]) rfl ⟨rfl, rfl⟩
  · rw [if_neg h0] at hb
    obtain ⟨k, hk⟩ : ∃ k : Nat, Lib.index u word = k := ⟨(Lib.index u word).toNat, by omega⟩
    have hf := hfit h0
    rw [hk, Int.toNat_natCast] at hb hf
    clear hfit hix h0
    have hlen := List.length_drop (i := k + word.length) (l := u)
    have hex := str_drop u (k + word.length)
    rw [behindOf_fuel word hw u.length ((u.drop (k + word.length)).length + 1) _ (by omega) (by omega)] at hb
    generalize u.drop (k + word.length) = t at *
    cases t with
    | nil =>
      simp only [List.take_nil, List.nil_append] at hb
      have hexH := hid hb
      clear hb
      go_wp2_with (go_at_call 36; refine (Tryz.strings_Index ⟨u.toArray⟩ ⟨word.toArray⟩ m _ (by show u.length < _; omega) hm).mono ?_; rintro e w1 ⟨rfl, rfl⟩; rw [show Lib.index (⟨u.toArray⟩ : ByteArray).data.toList (⟨word.toArray⟩ : ByteArray).data.toList = k from hk])
      rw [hex]
      refine ⟨⟨[], out, by simp, by simp; omega, hexH.out, _, _, _, _, _, _, _, _, _, _, _, _, _, _, _, _, _, _, _, rfl, trivial⟩, ?_⟩
      simp [strLen, ByteArray.size]
      omega
    | cons c t =>
      simp only [List.take_succ_cons, List.take_zero] at hb
      simp only [List.length_cons] at hlen
      have hexH := hid hb
      have hadd : ¬ (9223372036854775807 < out.length + 1) := by omega
      have hhd := str_head c t
      clear hb
      go_wp2_with (go_at_call 36; refine (Tryz.strings_Index ⟨u.toArray⟩ ⟨word.toArray⟩ m _ (by show u.length < _; omega) hm).mono ?_; rintro e w1 ⟨rfl, rfl⟩; rw [show Lib.index (⟨u.toArray⟩ : ByteArray).data.toList (⟨word.toArray⟩ : ByteArray).data.toList = k from hk])
      have hap : (⟨out.toArray⟩ : ByteArray) ++ ⟨#[c]⟩ = ⟨(out ++ [c]).toArray⟩ := by rw [ByteArray.mk_append_mk]
      rw [hex, hap]
      refine ⟨⟨c :: t, out ++ [c], by simp; omega, by simp; omega, by simpa using hexH.out, _, _, _, _, _, _, _, _, _, _, _, _, _, _, _, _, _, _, _, rfl, trivial⟩, ?_⟩
      simp [strLen, ByteArray.size]
      omega

end Go.Proofs.YtjijlkiilmbdnaaGreatDoor
