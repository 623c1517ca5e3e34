/- How many permutations are odd, modulo 2, of both. Conditions: none. -/
import Derived.Test.YtkapkieeafhaoaaSgn
namespace Go.Proofs.Ytkapkieeafhaoaa
open Go.RowKit

def odds : List (List Int) → Nat
  | [] => 0
  | x :: p => (if oddP x then 1 else 0) + odds p
theorem odds_snoc (p : List (List Int)) (x : List Int) : odds (p ++ [x]) = odds p + (if oddP x then 1 else 0) := by
  induction p with
  | nil => simp [odds]
  | cons a p ih => simp only [List.cons_append, odds, ih]; omega
theorem odds_take {L : List (List Int)} {k : Nat} (hk : k < L.length) : odds (L.take (k + 1)) = odds (L.take k) + (if oddP (gr L k) then 1 else 0) := by
  rw [List.take_add_one, gr_get hk, ← odds_snoc]
  rfl
theorem odds_le (L : List (List Int)) : odds L ≤ L.length := by
  induction L with
  | nil => simp [odds]
  | cons a p ih => simp only [odds, List.length_cons]; split <;> omega

/-- Rows of permutations, few and short. -/
def Perms (L : List (List Int)) (n : Nat) : Prop := Rect L n n ∧ n ≤ 10 ∧ ∀ x, x < n → IsPerm (gr L x)

set_option maxHeartbeats 1600000 in
theorem oddCount_any (a : Option Addr) (n c : Nat) (L : List (List Int)) (w : World) (hx : RdR w a n c L) (hL : Perms L n) :
    Calls Try.prog 93 #[.slice a n c] w fun e w' => e = .returned (.int .i64 ((odds L % 2 : Nat) : Int)) ∧ Ext w w' := by
  have hb1 := hx.le
  have hb2 := hx.max
  have Hl := Lib.hid hx.len
  have HL := Lib.hid hL
  have hn := hL.2.1
  clear hL
  go_enter Try.func93, Try.ntmps93
  go_wp2
  go_loopg [3, 8] n (fun gh o i wr => ∃ (k b : Nat), k ≤ n ∧ gh = n - k ∧ i = .int .i64 k ∧ o = .int .i64 b ∧ b < 2 ∧ Hid (b = odds (L.take k) % 2) ∧ Ext w wr)
  case atStart => exact ⟨0, 0, Nat.zero_le _, rfl, rfl, rfl, by omega, rfl, Ext.refl _⟩
  case round =>
    obtain ⟨k, b, hk, rfl, rfl, rfl, hb, HB, hE⟩ := hrel
    by_cases hlt : k < n
    · have hz : (k : Int) < (n : Int) := by omega
      obtain ⟨g, off, ai, ci, rfl, hc, hrow⟩ := hx.row HL.out.1 hlt
      have hc2 := hE.cell hc
      have ET := Lib.hid (odds_take (L := L) (k := k) (by rw [← Hl.out]; exact hlt))
      go_wp2_with fail
      refine (implSignOf_any _ _ _ (gr L k) _ (hrow.ext hE) hn (HL.out.2.2 k hlt)).mono ?_
      rintro e w2 ⟨rfl, hE2⟩
      have hE3 := hE.trans hE2
      cases h : oddP (gr L k)
      · have HN : Hid (b = odds (L.take (k + 1)) % 2) := Lib.hid (by rw [ET.out, h]; exact HB.out)
        rw [show sgn (gr L k) = 1 by rw [sgn, h]; rfl]
        clear hc2 hE
        go_wp2
        go_roundg (n - (k + 1))
        case measure => go_light; omega
        case rel => go_light; exact ⟨k + 1, b, by omega, rfl, by go_num, rfl, hb, HN, hE3⟩
      · have HN : Hid (1 - b = odds (L.take (k + 1)) % 2) := Lib.hid (by rw [ET.out, h]; have := HB.out; simp; omega)
        rw [show sgn (gr L k) = -1 by rw [sgn, h]; rfl]
        have hs : (1 : Int) - (b : Int) = ((1 - b : Nat) : Int) := by omega
        clear hc2 hE
        go_wp2
        go_roundg (n - (k + 1))
        case measure => go_light; omega
        case rel => go_light; exact ⟨k + 1, 1 - b, by omega, rfl, by go_num, by go_num, by omega, HN, hE3⟩
    · have hz : ¬ (k : Int) < (n : Int) := by omega
      obtain rfl : n = k := by omega
      have HF : Hid (b = odds L % 2) := Lib.hid (by have := HB.out; rwa [List.take_of_length_le (by rw [← Hl.out]; exact Nat.le_refl _)] at this)
      go_wp2
      go_ret
      exact ⟨ret_int (by have := HF.out; omega), hE⟩

set_option maxHeartbeats 1600000 in
theorem l08Odd_any (a : Option Addr) (n c : Nat) (L : List (List Int)) (w : World) (hx : RdR w a n c L) (hL : Perms L n) :
    Calls Try.prog 89 #[.slice a n c] w fun e w' => e = .returned (.int .i64 ((odds L % 2 : Nat) : Int)) ∧ Ext w w' := by
  have hb1 := hx.le
  have hb2 := hx.max
  have Hl := Lib.hid hx.len
  have HL := Lib.hid hL
  have hn := hL.2.1
  clear hL
  go_enter Try.func89, Try.ntmps89
  go_wp2
  go_loopg [3, 4] n (fun gh o i wr => ∃ (k b : Nat), k ≤ n ∧ gh = n - k ∧ i = .int .i64 k ∧ o = .int .i64 b ∧ b ≤ k ∧ Hid (b = odds (L.take k)) ∧ Ext w wr)
  case atStart => exact ⟨0, 0, Nat.zero_le _, rfl, rfl, rfl, Nat.le_refl _, rfl, Ext.refl _⟩
  case round =>
    obtain ⟨k, b, hk, rfl, rfl, rfl, hb, HB, hE⟩ := hrel
    by_cases hlt : k < n
    · have hz : (k : Int) < (n : Int) := by omega
      obtain ⟨g, off, ai, ci, rfl, hc, hrow⟩ := hx.row HL.out.1 hlt
      have hc2 := hE.cell hc
      have ET := Lib.hid (odds_take (L := L) (k := k) (by rw [← Hl.out]; exact hlt))
      go_wp2_with fail
      refine (specSignOf_any _ _ _ (gr L k) _ (hrow.ext hE) hn (HL.out.2.2 k hlt)).mono ?_
      rintro e w2 ⟨rfl, hE2⟩
      have hE3 := hE.trans hE2
      cases h : oddP (gr L k)
      · have HN : Hid (b = odds (L.take (k + 1))) := Lib.hid (by rw [ET.out, h]; exact HB.out)
        rw [show sgn (gr L k) = 1 by rw [sgn, h]; rfl]
        clear hc2 hE
        go_wp2
        go_roundg (n - (k + 1))
        case measure => go_light; omega
        case rel => go_light; exact ⟨k + 1, b, by omega, rfl, by go_num, rfl, by omega, HN, hE3⟩
      · have HN : Hid (b + 1 = odds (L.take (k + 1))) := Lib.hid (by rw [ET.out, h]; have := HB.out; simp; omega)
        rw [show sgn (gr L k) = -1 by rw [sgn, h]; rfl]
        clear hc2 hE
        go_wp2
        go_roundg (n - (k + 1))
        case measure => go_light; omega
        case rel => go_light; exact ⟨k + 1, b + 1, by omega, rfl, by go_num, by go_num, by omega, HN, hE3⟩
    · have hz : ¬ (k : Int) < (n : Int) := by omega
      obtain rfl : n = k := by omega
      have HF : Hid (b = odds L) := Lib.hid (by have := HB.out; rwa [List.take_of_length_le (by rw [← Hl.out]; exact Nat.le_refl _)] at this)
      go_wp2
      go_ret
      exact ⟨ret_int (by have := HF.out; omega), hE⟩
end Go.Proofs.Ytkapkieeafhaoaa
