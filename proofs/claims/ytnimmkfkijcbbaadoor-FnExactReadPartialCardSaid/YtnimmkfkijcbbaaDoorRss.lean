/- ReadSquare of spec. Conditions: none. -/
import Derived.Test.YtnimmkfkijcbbaaDoorRsq
namespace Go.Proofs.YtnimmkfkijcbbaaDoor
open Go.RowKit

theorem bs_extract (l : List UInt8) (a b : Nat) : (bs l).extract a b = bs ((l.drop a).take (b - a)) := ByteArray.extract_mk l a b
theorem bs_get {l : List UInt8} {k : Nat} {b : UInt8} (h : l[k]? = some b) : ∀ h' : k < (bs l).size, (bs l)[k]'h' = b := by
  intro h'
  obtain ⟨h1, h2⟩ := List.getElem?_eq_some_iff.1 h
  show l.toArray[k] = b
  rw [List.getElem_toArray]; exact h2
theorem byte_eq {b c : UInt8} (h : b = c) : ((b.toNat : Int) == (c.toNat : Int)) = true := by subst h; simp
theorem byte_ne {b c : UInt8} (h : ¬ b = c) : ((b.toNat : Int) == (c.toNat : Int)) = false := by
  simp
  exact fun e => h (UInt8.toNat_inj.1 (by exact_mod_cast e))

set_option maxRecDepth 100000 in
set_option maxHeartbeats 1600000 in
theorem l01Split_any (s : List UInt8) (w : World) (hs : s.length ≤ 1048576) :
    Calls Tryd.prog 28 #[.string (bs s), .int .u8 47] w fun e w' => ∃ a n c, e = .returned (.slice a n c) ∧ n = (parts s).length ∧ OwnT w' w.heap.size a n c ((parts s).map bs) ∧ Ext w w' := by
  have H0 := Own.empty 9 Value.string w
  obtain ⟨n, hn⟩ : ∃ n, s.length = n := ⟨_, rfl⟩
  have Hn := Lib.hid hn
  have hbsz : (bs s).size = n := by rw [bs_size]; exact hn
  rw [hn] at hs
  clear hn
  go_enter Tryd.func28, Tryd.ntmps28
  go_wp2
  go_loopg [5, 6, 7] n (fun gh o f i wr => ∃ (k fr m : Nat) (ad : Option Addr) (d : Nat) (cl : List (List UInt8)), k ≤ n ∧ gh = n - k ∧ o = .slice ad m d ∧ f = .int .i64 fr ∧ i = .int .i64 k ∧ fr ≤ k ∧ m ≤ k ∧ OwnT wr w.heap.size ad m d (cl.map bs) ∧ Hid (parts (s.take k) = cl ++ [(s.take k).drop fr]) ∧ Ext w wr)
  case atStart => exact ⟨0, 0, 0, _, _, [], Nat.zero_le _, rfl, rfl, rfl, rfl, Nat.le_refl _, Nat.le_refl _, H0, Lib.hid rfl, (Ext.refl _).alloc _⟩
  case round =>
    clear H0
    obtain ⟨k, fr, m, ad, d, cl, hk, rfl, rfl, rfl, rfl, hfr, hmk, hO, HP, hE⟩ := hrel
    have hsz := hE.size
    by_cases hlt : k < n
    · have hz : (k : Int) < (n : Int) := by omega
      obtain ⟨b, hb⟩ : ∃ b, s[k]? = some b := ⟨_, List.getElem?_eq_getElem (by rw [Hn.out]; exact hlt)⟩
      have hg := bs_get hb
      have hts : s.take (k + 1) = s.take k ++ [b] := by rw [List.take_add_one, hb]; rfl
      have Hts := Lib.hid hts
      clear hb hts
      by_cases h47 : b = 47
      · have hb2 : ((b.toNat : Int) == 47) = true := byte_eq h47
        have hex : (bs s).extract fr k = bs ((s.take k).drop fr) := by rw [bs_extract, List.drop_take]
        have H47 := Lib.hid h47
        clear h47
        go_wp2_with (at_builtin; refine app_T rfl _ _ rfl hO hsz rfl (by omega) rfl rfl ?_; intro ad' d' w3 hO3 _ honly)
        go_roundg (n - (k + 1))
        case measure => go_light; omega
        case rel =>
          go_light
          refine ⟨k + 1, k + 1, m + 1, ad', d', cl ++ [(s.take k).drop fr], hlt, rfl, rfl, by go_num, by go_num, Nat.le_refl _, by omega, by rw [List.map_append]; exact hO3, Lib.hid ?_, hE.only honly (fun b hb => (hO.lt hb).1)⟩
          have e1 : (s.take (k + 1)).drop (k + 1) = [] := List.drop_of_length_le (by rw [List.length_take]; exact Nat.min_le_left _ _)
          rw [e1, Hts.out, H47.out, parts_snoc_eq, HP.out]
      · have hb2 : ((b.toNat : Int) == 47) = false := byte_ne h47
        have H47 := Lib.hid h47
        clear h47
        go_wp2
        go_roundg (n - (k + 1))
        case measure => go_light; omega
        case rel =>
          go_light
          refine ⟨k + 1, fr, m, ad, d, cl, hlt, rfl, rfl, rfl, by go_num, by omega, by omega, hO, Lib.hid ?_, hE⟩
          rw [Hts.out, parts_snoc_ne _ _ _ _ H47.out HP.out, List.drop_append_of_le_length (by rw [List.length_take, Hn.out]; omega)]
    · obtain rfl : k = n := by omega
      have hft : s.take k = s := List.take_of_length_le (by rw [Hn.out]; exact Nat.le_refl _)
      have hP := HP.out
      rw [hft] at hP
      have HP2 := Lib.hid hP
      have hex : (bs s).extract fr k = bs (s.drop fr) := by rw [bs_extract, List.take_of_length_le (by rw [List.length_drop, Hn.out]; exact Nat.le_refl _)]
      have hl : cl.length = m := by have := hO.len; rw [List.length_map] at this; exact this.symm
      have Hl := Lib.hid hl
      clear hP hft HP hl
      go_wp2_with (at_builtin; refine app_T rfl _ _ rfl hO hsz rfl (by omega) rfl rfl ?_; intro ad' d' w3 hO3 _ honly)
      go_ret
      refine ⟨ad', m + 1, d', rfl, by rw [HP2.out, List.length_append, Hl.out]; rfl, by rw [HP2.out, List.map_append]; exact hO3, hE.only honly (fun b hb => (hO.lt hb).1)⟩

theorem l01Digit_yes (v : Int) (h1 : 48 ≤ v) (h2 : v ≤ 57) (w : World) : Calls Tryd.prog 29 #[.int .u8 v] w fun e w' => e = .returned (.bool true) ∧ w' = w := by
  have e1 : decide (48 ≤ v) = true := decide_eq_true h1
  have e2 : decide (v ≤ 57) = true := decide_eq_true h2
  go_enter Tryd.func29, Tryd.ntmps29
  go_wp2
  go_ret
  exact ⟨rfl, rfl⟩
theorem l01Digit_no (v : Int) (h : ¬ (48 ≤ v ∧ v ≤ 57)) (w : World) : Calls Tryd.prog 29 #[.int .u8 v] w fun e w' => e = .returned (.bool false) ∧ w' = w := by
  by_cases h1 : 48 ≤ v
  · have h2 : ¬ v ≤ 57 := fun h2 => h ⟨h1, h2⟩
    have e1 : decide (48 ≤ v) = true := decide_eq_true h1
    have e2 : decide (v ≤ 57) = false := decide_eq_false h2
    clear h
    go_enter Tryd.func29, Tryd.ntmps29
    go_wp2
    go_ret
    exact ⟨rfl, rfl⟩
  · have e1 : decide (48 ≤ v) = false := decide_eq_false h1
    clear h
    go_enter Tryd.func29, Tryd.ntmps29
    go_wp2
    go_ret
    exact ⟨rfl, rfl⟩

set_option maxRecDepth 100000 in
set_option maxHeartbeats 3200000 in
theorem specRsq (s : List UInt8) (w : World) (hs : s.length ≤ 1048576) :
    Calls Tryd.prog 18 #[.string (bs s)] w (RetRB w (rdM s) (pb (SqOk (rdRows s)))) := by
  go_enter Tryd.func18, Tryd.ntmps18
  go_wp2_with fail
  refine (l01Split_any s w hs).mono ?_
  rintro e w1 ⟨a, N, c, rfl, hN, hP, hE1⟩
  have HN := Lib.hid hN
  have hpl := parts_len s
  rw [← hN] at hpl
  clear hN
  by_cases hbig : N > 10
  · have h' : (N : Int) > 10 := by omega
    have H : Hid (¬ SqOk (rdRows s)) := Lib.hid fun h => by have := h.digits.1; rw [← HN.out] at this; omega
    clear hbig hpl
    go_wp2
    go_ret2
    exact RetRB.nil_ (rdM_no H.out).symm (pb_false H.out).symm hE1
  · have h' : ¬ ((N : Int) > 10) := by omega
    have hN10 : N ≤ 10 := by omega
    have H0 := OwnR.empty w1
    clear hbig hpl
    go_wp2
    go_loopg [5, 6] N (fun gh o i wr => ∃ (k : Nat) (ad : Option Addr) (d : Nat) (rs : List Row), k ≤ N ∧ gh = N - k ∧ i = .int .i64 k ∧ o = .slice ad k d ∧ OwnR wr w1.heap.size ad k d ((rdRows s).take k) rs ∧ Ext w1 wr)
    case atStart => exact ⟨0, _, _, _, Nat.zero_le _, rfl, rfl, rfl, H0, (Ext.refl _).alloc _⟩
    case round =>
      clear H0
      obtain ⟨k, ad, d, rs, hk, rfl, rfl, rfl, hO, hE⟩ := hrel
      have hszA := hE1.size
      have hszB := hE.size
      by_cases hlt : k < N
      · obtain ⟨g, x, rfl, _, hc, _, hx⟩ := hP.at_ (k := k) hlt
        obtain ⟨l, hl⟩ : ∃ l, (parts s)[k]? = some l := ⟨_, List.getElem?_eq_getElem (by rw [← HN.out]; exact hlt)⟩
        have hxl : x = bs l := by
          have := hx.out
          rw [List.getElem?_map, hl] at this
          cases this; rfl
        subst hxl
        have Hl := Lib.hid hl
        have Hm := Lib.hid (List.mem_of_getElem? hl)
        have hcA := hE.cell hc
        have hlsz : (bs l).size = l.length := bs_size l
        have hll : l.length ≤ 1048576 := Nat.le_trans (part_len Hm.out) hs
        clear hl hx hc
        by_cases hlong : l.length > 10
        · have h2 : ((l.length : Nat) : Int) > 10 := by omega
          have H : Hid (¬ SqOk (rdRows s)) := Lib.hid fun h => by have := (h.digits.2 l Hm.out).1; omega
          have hEf := hE1.trans hE
          clear hlong hO
          go_wp2
          go_ret2
          exact RetRB.nil_ (rdM_no H.out).symm (pb_false H.out).symm hEf
        · have h2 : ¬ (((l.length : Nat) : Int) > 10) := by omega
          have hl10 : l.length ≤ 10 := by omega
          have HI := Own.empty 2 (Value.int .i64) wr
          clear hlong
          go_wp2
          go_loopg [7, 8] l.length (fun gh r i wi => ∃ (j : Nat) (ar : Option Addr) (dr : Nat), j ≤ l.length ∧ gh = l.length - j ∧ i = .int .i64 j ∧ r = .slice ar j dr ∧ OwnI wi wr.heap.size ar j dr ((l.take j).map dv) ∧ Ext wr wi)
          case atStart => exact ⟨0, _, _, Nat.zero_le _, rfl, rfl, rfl, HI, (Ext.refl _).alloc _⟩
          case round =>
            clear HI
            obtain ⟨j, ar, dr, hj, rfl, rfl, rfl, hI, hEi⟩ := hrel
            have hcB := hEi.cell hcA
            have hszI := hEi.size
            by_cases hlj : j < l.length
            · obtain ⟨b, hb⟩ : ∃ b, l[j]? = some b := ⟨_, List.getElem?_eq_getElem hlj⟩
              have hg := bs_get hb
              have Hb := Lib.hid hb
              have hb256 : (b.toNat : Int) ≤ 255 := by have := b.toNat_lt; omega
              clear hb
              by_cases hdg : 48 ≤ (b.toNat : Int) ∧ (b.toNat : Int) ≤ 57
              · obtain ⟨hd1, hd2⟩ := hdg
                have hw8 : IntKind.u8.wrap ((b.toNat : Int) - 48) = (b.toNat : Int) - 48 := by simp [IntKind.wrap, IntKind.bits, IntKind.signed]; omega
                go_wp2_with fail
                refine (l01Digit_yes _ hd1 hd2 _).mono ?_
                rintro e w3 ⟨rfl, rfl⟩
                go_wp2_with (at_builtin; refine app_I rfl _ _ rfl hI hszI rfl (by omega) rfl rfl ?_; intro ad' d' w3 hrow honly hmv)
                go_roundg (l.length - (j + 1))
                case measure => go_light; omega
                case rel =>
                  go_light
                  refine ⟨j + 1, ad', d', hlj, rfl, by go_num, rfl, ?_, hEi.only honly (fun b hb => (hI.lt hb).1)⟩
                  rw [List.take_add_one, Hb.out, List.map_append]
                  exact hrow
              · have H : Hid (¬ SqOk (rdRows s)) := Lib.hid fun h => by
                  have := (h.digits.2 l Hm.out).2 b (List.mem_of_getElem? Hb.out)
                  unfold dv at this; omega
                have hEf := (hE1.trans hE).trans hEi
                clear hO hI
                go_wp2_with fail
                refine (l01Digit_no _ hdg _).mono ?_
                rintro e w3 ⟨rfl, rfl⟩
                clear hdg
                go_wp2
                go_ret2
                exact RetRB.nil_ (rdM_no H.out).symm (pb_false H.out).symm hEf
            · obtain rfl : j = l.length := by omega
              rw [List.take_length] at hI
              have hOw := hO.ext hEi
              have hap : ∀ g, blk ar = some g → ¬ OwnR.fp ad rs g := fun g hg hf => by
                have h1 := (hI.lt hg).1
                have h2 := (hO.lt hf).2
                omega
              have hR := hI.base (B' := w1.heap.size) (by omega)
              have hsz : w1.heap.size ≤ wr.heap.size := by omega
              clear hO hI
              go_wp2_with (at_builtin; refine app_S rfl _ _ rfl hOw hsz hR hap rfl (by omega) rfl rfl ?_; intro ad' d' w3 hrows honly hmv)
              go_roundg (N - (k + 1))
              case measure => go_light; omega
              case rel =>
                go_light
                refine ⟨k + 1, ad', d', rs ++ [(ar, l.length, dr)], hlt, rfl, by go_num, rfl, ?_, (hE.trans hEi).only honly (fun b hb => (hOw.lt (.inl hb)).1)⟩
                have e : (rdRows s)[k]? = some (l.map dv) := by rw [rdRows, List.getElem?_map, Hl.out]; rfl
                rw [List.take_add_one, e]
                exact hrows
      · obtain rfl : k = N := by omega
        have hft : (rdRows s).take k = rdRows s := List.take_of_length_le (by rw [rdRows_len, ← HN.out]; exact Nat.le_refl _)
        rw [hft] at hO
        have hEf := hE1.trans hE
        have hOf := hO.base hE1.size
        clear hft hO
        by_cases h : SqOk (rdRows s)
        · have H := Lib.hid h
          clear h
          have hV := l06Ok_any ad k d (rdRows s) wr hOf.rd
          rw [pb_true H.out] at hV
          go_wp2_with fail
          refine hV.mono ?_
          rintro e w3 ⟨rfl, hE3⟩
          have hO3 := hOf.ext hE3
          have hEg := hEf.trans hE3
          clear hV hOf
          go_wp2
          go_ret2
          exact RetRB.mk_ hO3 (Nat.le_refl _) (rdM_yes H.out).symm (pb_true H.out).symm hEg
        · have H := Lib.hid h
          clear h
          have hV := l06Ok_any ad k d (rdRows s) wr hOf.rd
          rw [pb_false H.out] at hV
          go_wp2_with fail
          refine hV.mono ?_
          rintro e w3 ⟨rfl, hE3⟩
          have hEg := hEf.trans hE3
          clear hV hOf
          go_wp2
          go_ret2
          exact RetRB.nil_ (rdM_no H.out).symm (pb_false H.out).symm hEg
end Go.Proofs.YtnimmkfkijcbbaaDoor
