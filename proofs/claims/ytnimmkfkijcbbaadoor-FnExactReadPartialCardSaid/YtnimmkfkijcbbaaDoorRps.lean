/- ReadPartial of spec. Conditions: none. -/
import Derived.Test.YtnimmkfkijcbbaaDoorRss
import Derived.Test.YtnimmkfkijcbbaaDoorPts
namespace Go.Proofs.YtnimmkfkijcbbaaDoor
open Go.RowKit

set_option maxRecDepth 100000 in
set_option maxHeartbeats 3200000 in
theorem specRpt (s : List UInt8) (w : World) (hs : s.length ≤ 1048576) :
    Calls Tryd.prog 12 #[.string (bs s)] w (RetRB w (rpM s) (pb (POk (rdP s)))) := by
  go_enter Tryd.func12, Tryd.ntmps12
  go_wp2_with fail
  refine (l01Split_any s w hs).mono ?_
  rintro e w1 ⟨a, N, c, rfl, hN, hP, hE1⟩
  have HN := Lib.hid hN
  have hpl := parts_len s
  rw [← hN] at hpl
  clear hN
  by_cases hbig : N > 10
  · have h' : (N : Int) > 10 := by omega
    have H : Hid (¬ POk (rdP s)) := Lib.hid fun h => by have := h.digits.1; rw [← HN.out] at this; omega
    clear hbig hpl
    go_wp2
    go_ret2
    exact RetRB.nil_ (rpM_no H.out).symm (pb_false H.out).symm hE1
  · have h' : ¬ ((N : Int) > 10) := by omega
    have hN10 : N ≤ 10 := by omega
    have H0 := OwnR.empty w1
    clear hbig hpl
    go_wp2
    go_loopg [5, 6] N (fun gh o i wr => ∃ (k : Nat) (ad : Option Addr) (d : Nat) (rs : List Row), k ≤ N ∧ gh = N - k ∧ i = .int .i64 k ∧ o = .slice ad k d ∧ OwnR wr w1.heap.size ad k d ((rdP s).take k) rs ∧ Ext w1 wr)
    case atStart => exact ⟨0, _, _, _, Nat.zero_le _, rfl, rfl, rfl, H0, (Ext.refl _).alloc _⟩
    case round =>
      clear H0
      obtain ⟨k, ad, d, rs, hk, rfl, rfl, rfl, hO, hE⟩ := hrel
      have hszA := hE1.size
      have hszB := hE.size
      by_cases hlt : k < N
      · obtain ⟨g, x, rfl, _, hc, _, hx⟩ := hP.at_ (k := k) hlt
        obtain ⟨l, hl⟩ : ∃ l, (parts s)[k]? = some l := ⟨_, List.getElem?_eq_getElem (by rw [← HN.out]; exact hlt)⟩
        have hxl : x = bs l := by
          have := hx.out
          rw [List.getElem?_map, hl] at this
          cases this; rfl
        subst hxl
        have Hl := Lib.hid hl
        have Hm := Lib.hid (List.mem_of_getElem? hl)
        have hcA := hE.cell hc
        have hlsz : (bs l).size = l.length := bs_size l
        have hll : l.length ≤ 1048576 := Nat.le_trans (part_len Hm.out) hs
        clear hl hx hc
        by_cases hlong : l.length > 10
        · have h2 : ((l.length : Nat) : Int) > 10 := by omega
          have H : Hid (¬ POk (rdP s)) := Lib.hid fun h => by have := (h.digits.2 l Hm.out).1; omega
          have hEf := hE1.trans hE
          clear hlong hO
          go_wp2
          go_ret2
          exact RetRB.nil_ (rpM_no H.out).symm (pb_false H.out).symm hEf
        · have h2 : ¬ (((l.length : Nat) : Int) > 10) := by omega
          have hl10 : l.length ≤ 10 := by omega
          have HI := Own.empty 2 (Value.int .i64) wr
          clear hlong
          go_wp2
          go_loopg [7, 8] l.length (fun gh r i wi => ∃ (j : Nat) (ar : Option Addr) (dr : Nat), j ≤ l.length ∧ gh = l.length - j ∧ i = .int .i64 j ∧ r = .slice ar j dr ∧ OwnI wi wr.heap.size ar j dr ((l.take j).map fun b => fx (dv b)) ∧ Ext wr wi)
          case atStart => exact ⟨0, _, _, Nat.zero_le _, rfl, rfl, rfl, HI, (Ext.refl _).alloc _⟩
          case round =>
            clear HI
            obtain ⟨j, ar, dr, hj, rfl, rfl, rfl, hI, hEi⟩ := hrel
            have hcB := hEi.cell hcA
            have hszI := hEi.size
            by_cases hlj : j < l.length
            · obtain ⟨b, hb⟩ : ∃ b, l[j]? = some b := ⟨_, List.getElem?_eq_getElem hlj⟩
              have hg := bs_get hb
              have Hb := Lib.hid hb
              have hb256 : (b.toNat : Int) ≤ 255 := by have := b.toNat_lt; omega
              clear hb
              by_cases h46 : b = 46
              · have hB46 : ((b.toNat : Int) != 46) = false := by subst h46; rfl
                have H46 : Hid (fx (dv b) = -1) := Lib.hid (by subst h46; rfl)
                clear h46
                go_wp2_with (at_builtin; refine app_I rfl _ _ rfl hI hszI rfl (by omega) rfl rfl ?_; intro ad' d' w3 hrow honly hmv)
                go_roundg (l.length - (j + 1))
                case measure => go_light; omega
                case rel =>
                  go_light
                  refine ⟨j + 1, ad', d', hlj, rfl, by go_num, rfl, ?_, hEi.only honly (fun b hb => (hI.lt hb).1)⟩
                  rw [List.take_add_one, Hb.out, List.map_append]
                  have e9 : (Option.map (fun b => fx (dv b)) (some b)).toList = [-1] := by show [fx (dv b)] = _; rw [H46.out]
                  simpa [H46.out] using hrow
              have hB46 : ((b.toNat : Int) != 46) = true := by
                have := byte_ne (b := b) (c := 46) h46
                have h9 : ((b.toNat : Int) == 46) = false := this
                rw [bne, h9]; rfl
              by_cases hdg : 48 ≤ (b.toNat : Int) ∧ (b.toNat : Int) ≤ 57
              · obtain ⟨hd1, hd2⟩ := hdg
                have hw8 : IntKind.u8.wrap ((b.toNat : Int) - 48) = (b.toNat : Int) - 48 := by simp [IntKind.wrap, IntKind.bits, IntKind.signed]; omega
                have H48 : Hid (fx (dv b) = (b.toNat : Int) - 48) := Lib.hid (by unfold fx dv; rw [if_neg (by omega)])
                clear h46
                go_wp2_with fail
                refine (l01Digit_yes _ hd1 hd2 _).mono ?_
                rintro e w3 ⟨rfl, rfl⟩
                go_wp2_with (at_builtin; refine app_I rfl _ _ rfl hI hszI rfl (by omega) rfl rfl ?_; intro ad' d' w3 hrow honly hmv)
                go_roundg (l.length - (j + 1))
                case measure => go_light; omega
                case rel =>
                  go_light
                  refine ⟨j + 1, ad', d', hlj, rfl, by go_num, rfl, ?_, hEi.only honly (fun b hb => (hI.lt hb).1)⟩
                  rw [List.take_add_one, Hb.out, List.map_append]
                  simpa [H48.out] using hrow
              · have H : Hid (¬ POk (rdP s)) := Lib.hid fun h => by
                  rcases (h.digits.2 l Hm.out).2 b (List.mem_of_getElem? Hb.out) with h9 | h9
                  · exact h46 h9
                  · unfold dv at h9; omega
                have hEf := (hE1.trans hE).trans hEi
                clear hO hI h46
                go_wp2_with fail
                refine (l01Digit_no _ hdg _).mono ?_
                rintro e w3 ⟨rfl, rfl⟩
                clear hdg
                go_wp2
                go_ret2
                exact RetRB.nil_ (rpM_no H.out).symm (pb_false H.out).symm hEf
            · obtain rfl : j = l.length := by omega
              rw [List.take_length] at hI
              have hOw := hO.ext hEi
              have hap : ∀ g, blk ar = some g → ¬ OwnR.fp ad rs g := fun g hg hf => by
                have h1 := (hI.lt hg).1
                have h2 := (hO.lt hf).2
                omega
              have hR := hI.base (B' := w1.heap.size) (by omega)
              have hsz : w1.heap.size ≤ wr.heap.size := by omega
              clear hO hI
              go_wp2_with (at_builtin; refine app_S rfl _ _ rfl hOw hsz hR hap rfl (by omega) rfl rfl ?_; intro ad' d' w3 hrows honly hmv)
              go_roundg (N - (k + 1))
              case measure => go_light; omega
              case rel =>
                go_light
                refine ⟨k + 1, ad', d', rs ++ [(ar, l.length, dr)], hlt, rfl, by go_num, rfl, ?_, (hE.trans hEi).only honly (fun b hb => (hOw.lt (.inl hb)).1)⟩
                have e : (rdP s)[k]? = some (l.map fun b => fx (dv b)) := by rw [rdP, rdRows, List.getElem?_map, List.getElem?_map, Hl.out]; simp [Function.comp_def]
                rw [List.take_add_one, e]
                exact hrows
      · obtain rfl : k = N := by omega
        have hft : (rdP s).take k = rdP s := List.take_of_length_le (by rw [rdP_len, ← HN.out]; exact Nat.le_refl _)
        rw [hft] at hO
        have hEf := hE1.trans hE
        have hOf := hO.base hE1.size
        clear hft hO
        by_cases h : POk (rdP s)
        · have H := Lib.hid h
          clear h
          have hV := l09Ok_any ad k d (rdP s) wr hOf.rd
          rw [pb_true H.out] at hV
          go_wp2_with fail
          refine hV.mono ?_
          rintro e w3 ⟨rfl, hE3⟩
          have hO3 := hOf.ext hE3
          have hEg := hEf.trans hE3
          clear hV hOf
          go_wp2
          go_ret2
          exact RetRB.mk_ hO3 (Nat.le_refl _) (rpM_yes H.out).symm (pb_true H.out).symm hEg
        · have H := Lib.hid h
          clear h
          have hV := l09Ok_any ad k d (rdP s) wr hOf.rd
          rw [pb_false H.out] at hV
          go_wp2_with fail
          refine hV.mono ?_
          rintro e w3 ⟨rfl, hE3⟩
          have hEg := hEf.trans hE3
          clear hV hOf
          go_wp2
          go_ret2
          exact RetRB.nil_ (rpM_no H.out).symm (pb_false H.out).symm hEg
end Go.Proofs.YtnimmkfkijcbbaaDoor
