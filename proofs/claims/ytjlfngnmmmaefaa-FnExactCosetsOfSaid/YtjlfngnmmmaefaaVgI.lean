/- Valid groups, by the program. Conditions: none. -/
import Derived.Test.YtjlfngnmmmaefaaVgP
import Derived.Test.YtjlfngnmmmaefaaClI
import Derived.Test.YtjlfngnmmmaefaaBs
import Derived.Test.YtjlfngnmmmaefaaBx
namespace Go.Proofs.Ytjlfngnmmmaefaa
open Go.RowKit

theorem rdR_rows {w : World} {a : Option Addr} {n c : Nat} {rs : List Row} {xss : List (List Int)} (ht : RdT w a n c rs) (hl : rs.length = xss.length) (h : ∀ (i : Nat) (r : Row) (x : List Int), rs[i]? = some r → xss[i]? = some x → RdI w r.1 r.2.1 r.2.2 x) : RdR w a n c xss := by
  refine ⟨by rw [ht.len, hl], ht.le, ht.max, ht.nil, fun k xs hx => ?_⟩
  have hk : k < rs.length := by rw [hl]; exact (List.getElem?_eq_some_iff.1 hx).1
  obtain ⟨b, o, v, h1, h2, h3⟩ := ht.get k _ (List.getElem?_eq_getElem hk)
  exact ⟨b, o, v, h1, h2, _, _, _, h3, h k _ xs (List.getElem?_eq_getElem hk) hx⟩

/-- What 'chosen' has at the end, or at some place. -/
def ChoAt (n : Nat) (E : List (List Int)) (k : Nat) (b : Bool) (G A : List (List Int)) : Prop :=
  SortedLL A ∧ A.length ≤ 720 ∧ (b = true → G = grd n E k ∧ IsGen n G A) ∧ (b = false → ∃ G', (∀ g, g ∈ G' → g ∈ E) ∧ Big n G' 720)
def ChoRet (n : Nat) (E : List (List Int)) (w : World) (a1 : Option Addr) (m1 c1 : Nat) (a2 : Option Addr) (m2 c2 : Nat) (b : Bool) : Prop :=
  ∃ G A, RdR w a1 m1 c1 G ∧ RdR w a2 m2 c2 A ∧ ChoAt n E E.length b G A

def ChoPost (n : Nat) (E : List (List Int)) (w : World) (e : Ending) (w' : World) : Prop :=
  ∃ a1 m1 c1 a2 m2 c2 b, e = .returned (.tuple #[.slice a1 m1 c1, .slice a2 m2 c2, .bool b]) ∧ Ext w w' ∧ ChoRet n E w' a1 m1 c1 a2 m2 c2 b

set_option maxRecDepth 100000 in
set_option maxHeartbeats 3200000 in
theorem chosen_any (n : Nat) (a : Option Addr) (m c : Nat) (E : List (List Int)) (w : World) (hg : RdR w a m c E) (hp : PermsN n E) (hn1 : 1 ≤ n) (hn : n ≤ 32) (hm : m ≤ 720) :
    Calls Try.prog 68 #[.int .i64 n, .slice a m c] w (ChoPost n E w) := by
  have hb1 := hg.le
  have hb2 := hg.max
  have Hl := Lib.hid hg.len
  have HP := Lib.hid hp
  clear hp
  have hnil : RdR w none 0 0 [] := (OwnR.nil_ w 0).rd
  go_enter Try.func68, Try.ntmps68
  go_wp2_with fail
  refine (closure_any n none 0 0 [] _ hnil (fun g hg => by cases hg) hn1 hn (by omega)).mono ?_
  rintro e w2 ⟨aA, mA, cA, rfl, hE2, A, ⟨rsA, hOA⟩, HA⟩
  have hnb : Hid (¬ Big n [] 720) := Lib.hid (fun ⟨L, h1, h2, h3⟩ => by
    have := List.Nodup.length_le_of_subset (l₁ := L) (l₂ := [upto n]) h1 (fun x hx => List.mem_singleton.2 (by
      have h9 := h2 x hx
      generalize hgs : ([] : List (List Int)) = gs at h9
      cases h9 with
      | one => rfl
      | step _ hg => subst hgs; cases hg))
    rw [List.length_singleton] at this
    omega)
  rw [pb_true hnb.out]
  have hrdA := hOA.rd
  have HC0 : Hid (ChoAt n E 0 true [] A) := Lib.hid ⟨(HA.out.1 hnb.out).1.1, (HA.out.1 hnb.out).2, fun _ => ⟨rfl, (HA.out.1 hnb.out).1⟩, fun h => by cases h⟩
  clear hOA hnil
  go_wp2
  go_loopg [7, 8, 9, 21] m (fun gh s t u i wr => ∃ (k : Nat) (aG : Option Addr) (mG cG : Nat) (rsG : List Row) (G : List (List Int)) (aA : Option Addr) (mA cA : Nat) (A : List (List Int)) (b : Bool), k ≤ m ∧ gh = m - k ∧ s = .slice aG mG cG ∧ t = .slice aA mA cA ∧ u = .bool b ∧ i = .int .i64 k ∧
    OwnT wr w.heap.size aG mG cG rsG ∧ RdR wr aA mA cA A ∧ Hid (mG ≤ k ∧ rsG.length = G.length ∧ (∀ (j : Nat) (r : Row) (x : List Int), rsG[j]? = some r → G[j]? = some x → RdI w r.1 r.2.1 r.2.2 x) ∧ (∀ g, g ∈ G → g ∈ E)) ∧ Hid (ChoAt n E k b G A) ∧ Ext w wr)
  case atStart => exact ⟨0, none, 0, 0, [], [], aA, mA, cA, A, true, Nat.zero_le _, rfl, rfl, rfl, rfl, rfl, Own.nil_ _ _ _ _, hrdA, Lib.hid ⟨Nat.le_refl _, rfl, fun j r x h => by simp at h, fun g hg => by cases hg⟩, HC0, hE2⟩
  case round =>
    clear hrdA HC0 hE2
    obtain ⟨k, aG, mG, cG, rsG, G, aA, mA, cA, A, b, hk, rfl, rfl, rfl, rfl, rfl, hT, hrd, HR, HC, hE⟩ := hrel
    by_cases hlt : k < m
    · have hz : (k : Int) < (m : Int) := by omega
      have hkE : k < E.length := by rw [← Hl.out]; exact hlt
      obtain ⟨bE, o, ai, ni, ci, rfl, hc0, hrow⟩ := hg.gr hlt
      have hc := hE.cell hc0
      have HkE := Lib.hid hkE
      have hmG : mG ≤ 720 := by have := HR.out.1; omega
      clear hkE
      have hbs := slBs_any _ _ _ A ai ni ci (gr E k) _ hrd (hrow.ext hE) HC.out.1 (by have h1 := hrd.len; have h2 := HC.out.2.1; omega)
      cases b
      · have HC2 : Hid (ChoAt n E (k + 1) false G A) := Lib.hid ⟨HC.out.1, HC.out.2.1, fun h => (by cases h), HC.out.2.2.2⟩
        have HR2 : Hid (mG ≤ k + 1 ∧ rsG.length = G.length ∧ (∀ (j : Nat) (r : Row) (x : List Int), rsG[j]? = some r → G[j]? = some x → RdI w r.1 r.2.1 r.2.2 x) ∧ (∀ g, g ∈ G → g ∈ E)) := Lib.hid ⟨by have := HR.out.1; omega, HR.out.2⟩
        rcases pbc (gr E k ∈ A) with ⟨hb, Hb⟩ | ⟨hb, Hb⟩
        · go_wp2_with fail
          refine hbs.mono ?_
          rintro e w5 ⟨rfl, kb, rfl⟩
          rw [hb]
          clear hb hc hbs
          go_wp2
          go_roundg (m - (k + 1))
          case measure => go_light; omega
          case rel => go_light; exact ⟨k + 1, aG, mG, cG, rsG, G, aA, mA, cA, A, false, by omega, rfl, rfl, rfl, rfl, by go_num, hT, hrd, HR2, HC2, hE⟩
        · go_wp2_with fail
          refine hbs.mono ?_
          rintro e w5 ⟨rfl, kb, rfl⟩
          rw [hb]
          clear hb hc hbs
          go_wp2
          go_roundg (m - (k + 1))
          case measure => go_light; omega
          case rel => go_light; exact ⟨k + 1, aG, mG, cG, rsG, G, aA, mA, cA, A, false, by omega, rfl, rfl, rfl, rfl, by go_num, hT, hrd, HR2, HC2, hE⟩
      · rcases pbc (gr E k ∈ A) with ⟨hb, Hb⟩ | ⟨hb, Hb⟩
        · have HC2 : Hid (ChoAt n E (k + 1) true G A) := Lib.hid ⟨HC.out.1, HC.out.2.1, fun _ => by
            obtain ⟨h1, h2⟩ := HC.out.2.2.1 rfl
            refine ⟨?_, h2⟩
            rw [grd_yes (by rw [← h1]; exact (h2.2.2 _).1 Hb.out)]
            exact h1, fun h => by cases h⟩
          have HR2 : Hid (mG ≤ k + 1 ∧ rsG.length = G.length ∧ (∀ (j : Nat) (r : Row) (x : List Int), rsG[j]? = some r → G[j]? = some x → RdI w r.1 r.2.1 r.2.2 x) ∧ (∀ g, g ∈ G → g ∈ E)) := Lib.hid ⟨by have := HR.out.1; omega, HR.out.2⟩
          go_wp2_with fail
          refine hbs.mono ?_
          rintro e w5 ⟨rfl, kb, rfl⟩
          rw [hb]
          clear hb hc hbs
          go_wp2
          go_roundg (m - (k + 1))
          case measure => go_light; omega
          case rel => go_light; exact ⟨k + 1, aG, mG, cG, rsG, G, aA, mA, cA, A, true, by omega, rfl, rfl, rfl, rfl, by go_num, hT, hrd, HR2, HC2, hE⟩
        · have Hg2 : Hid (G ++ [gr E k] = grd n E (k + 1)) := Lib.hid (by
            obtain ⟨h1, h2⟩ := HC.out.2.2.1 rfl
            rw [grd_no (by rw [← h1]; exact fun h => Hb.out ((h2.2.2 _).2 h)), ← h1])
          have hsz := hE.size
          go_wp2_with fail
          refine hbs.mono ?_
          rintro e w5 ⟨rfl, kb, rfl⟩
          rw [hb]
          clear hb hc hbs
          go_wp2_with (at_builtin; refine app_T rfl _ _ rfl hT hsz rfl (by omega) rfl rfl ?_; intro aG2 cG2 w8 hT8 honly hmv)
          have hE8 := hE.app hT honly (Nat.le_refl _)
          have Hrows : Hid ((rsG ++ [(ai, ni, ci)]).length = (G ++ [gr E k]).length ∧ (∀ (j : Nat) (r : Row) (x : List Int), (rsG ++ [(ai, ni, ci)])[j]? = some r → (G ++ [gr E k])[j]? = some x → RdI w r.1 r.2.1 r.2.2 x) ∧ (∀ g, g ∈ G ++ [gr E k] → g ∈ E)) := Lib.hid ⟨by rw [List.length_append, List.length_append, HR.out.2.1]; rfl, fun j r x h1 h2 => by
            by_cases e : j < rsG.length
            · rw [List.getElem?_append_left e] at h1
              rw [List.getElem?_append_left (by rw [← HR.out.2.1]; exact e)] at h2
              exact HR.out.2.2.1 j r x h1 h2
            · rw [List.getElem?_append_right (by omega)] at h1
              rw [List.getElem?_append_right (by rw [← HR.out.2.1]; omega), ← HR.out.2.1] at h2
              obtain ⟨q, hq⟩ : ∃ q, j - rsG.length = q := ⟨_, rfl⟩
              rw [hq] at h1 h2
              cases q with
              | zero => cases h1; cases h2; exact hrow
              | succ q => simp at h1, fun g hg => by
            rcases List.mem_append.1 hg with h | h
            · exact HR.out.2.2.2 g h
            · rw [List.mem_singleton.1 h]; exact gr_mem' HkE.out⟩
          have hrdG : RdR w8 aG2 (mG + 1) cG2 (G ++ [gr E k]) := rdR_rows hT8.rdT Hrows.out.1 (fun j r x h1 h2 => (Hrows.out.2.1 j r x h1 h2).ext hE8)
          clear hT hrd hE honly hmv hsz
          refine (closure_any n _ _ _ (G ++ [gr E k]) _ hrdG (fun g hg => HP.out g (Hrows.out.2.2 g hg)) hn1 hn (by omega)).mono ?_
          rintro e w9 ⟨aA2, mA2, cA2, rfl, hE9, A2, ⟨rsA2, hOA2⟩, HA2⟩
          have hrd2 := hOA2.rd
          have hT9 := hT8.ext hE9
          have hEn := hE8.trans hE9
          have HR2 : Hid (mG + 1 ≤ k + 1 ∧ (rsG ++ [(ai, ni, ci)]).length = (G ++ [gr E k]).length ∧ (∀ (j : Nat) (r : Row) (x : List Int), (rsG ++ [(ai, ni, ci)])[j]? = some r → (G ++ [gr E k])[j]? = some x → RdI w r.1 r.2.1 r.2.2 x) ∧ (∀ g, g ∈ G ++ [gr E k] → g ∈ E)) := Lib.hid ⟨by have := HR.out.1; omega, Hrows.out⟩
          clear hOA2 hT8 hE8 hE9 hrdG
          rcases pbc (Big n (G ++ [gr E k]) 720) with ⟨hb, HBg⟩ | ⟨hb, HBg⟩
          · rw [pb_false (fun h => h HBg.out)]
            have HC2 : Hid (ChoAt n E (k + 1) false (G ++ [gr E k]) A2) := Lib.hid ⟨by rw [HA2.out.2 HBg.out]; exact List.Pairwise.nil, by rw [HA2.out.2 HBg.out]; exact Nat.zero_le _, fun h => (by cases h), fun _ => ⟨_, Hrows.out.2.2, HBg.out⟩⟩
            clear hb
            go_wp2
            go_roundg (m - (k + 1))
            case measure => go_light; omega
            case rel => go_light; exact ⟨k + 1, aG2, mG + 1, cG2, _, _, aA2, mA2, cA2, A2, false, by omega, rfl, rfl, rfl, rfl, by go_num, hT9, hrd2, HR2, HC2, hEn⟩
          · rw [pb_true HBg.out]
            have HC2 : Hid (ChoAt n E (k + 1) true (G ++ [gr E k]) A2) := Lib.hid ⟨(HA2.out.1 HBg.out).1.1, (HA2.out.1 HBg.out).2, fun _ => ⟨Hg2.out, (HA2.out.1 HBg.out).1⟩, fun h => by cases h⟩
            clear hb
            go_wp2
            go_roundg (m - (k + 1))
            case measure => go_light; omega
            case rel => go_light; exact ⟨k + 1, aG2, mG + 1, cG2, _, _, aA2, mA2, cA2, A2, true, by omega, rfl, rfl, rfl, rfl, by go_num, hT9, hrd2, HR2, HC2, hEn⟩
    · have hz : ¬ (k : Int) < (m : Int) := by omega
      obtain rfl : m = k := by omega
      have hret : ChoRet n E wr aG mG cG aA mA cA b := ⟨G, A, rdR_rows hT.rdT HR.out.2.1 (fun j r x h1 h2 => (HR.out.2.2.1 j r x h1 h2).ext hE), hrd, by have := HC.out; rwa [Hl.out] at this⟩
      clear hT hrd
      go_wp2
      go_ret3
      exact ⟨_, _, _, _, _, _, _, rfl, hE, hret⟩

/-- 'chosen' says whether a strictly rising list of permutations is closed. -/
theorem cho_closed {n : Nat} {E G A : List (List Int)} {b : Bool} (hs : Strict E) (hp : PermsN n E) (hl : E.length ≤ 720) (h : ChoAt n E E.length b G A) : Closed n E ↔ (b = true ∧ A.length = E.length) := by
  cases b with
  | false =>
    obtain ⟨G', h1, h2⟩ := h.2.2.2 rfl
    constructor
    · intro hc; exact absurd h2 (closed_small hc h1 hl)
    · rintro ⟨h3, _⟩; cases h3
  | true =>
    obtain ⟨h1, h2⟩ := h.2.2.1 rfl
    rw [h1] at h2
    rw [closed_iff hs hp h2]
    exact ⟨fun h => ⟨rfl, h⟩, fun h => h.2⟩
end Go.Proofs.Ytjlfngnmmmaefaa
