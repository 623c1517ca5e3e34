/- CosetsOf of the program. Conditions: none. -/
import Derived.Test.YtjlfngnmmmaefaaCosP
import Derived.Test.YtjlfngnmmmaefaaVg
import Derived.Test.YtjlfngnmmmaefaaClI
import Derived.Test.YtjlfngnmmmaefaaOwnL
import Derived.Test.YtjlfngnmmmaefaaSl
import Derived.Test.YtjlfngnmmmaefaaRst
namespace Go.Proofs.Ytjlfngnmmmaefaa
open Go.RowKit

set_option maxRecDepth 100000 in
set_option maxHeartbeats 800000 in
theorem cos_asks (b2 : Nat) (z : Int) (a : Option Addr) (n c : Nat) (p r : List (List Int)) (w : World) (hB : Bx w b2 z a n c) (hx : RdR w a n c p) (hs : SortedLL p) (hn : n ≤ 1048576) :
    Asks 81 #[.pointer (some ⟨b2, 0, none⟩)] r (fun q => !(pb (q ∈ p))) w := by
  intro i q a' n' c' w1 hi hE hq
  obtain ⟨p0, p1⟩ := hB.ext hE
  clear hB hi
  show Calls Try.prog 81 #[.slice a' n' c', .pointer (some ⟨b2, 0, none⟩)] w1 _
  go_enter Try.func81, Try.ntmps81
  go_wp2_with fail
  refine (hasElement_any z a n c p a' n' c' q _ (hx.ext hE) hq hs hn).mono ?_
  rintro e w2 ⟨rfl, hE2⟩
  obtain ⟨v, hv⟩ : ∃ v, pb (q ∈ p) = v := ⟨_, rfl⟩
  rw [hv]
  have Hv := Lib.hid hv
  clear hv
  go_wp2
  go_ret
  exact ⟨ret_bool (by rw [Hv.out]), hE2⟩

set_option maxRecDepth 100000 in
set_option maxHeartbeats 6400000 in
theorem implCos (z : Int) (a : Option Addr) (n c : Nat) (p : List (List Int)) (y : Int) (a2 : Option Addr) (n2 c2 : Nat) (r : List (List Int)) (w : World) (hx : RdR w a n c p) (_ : p.length + tot p ≤ 1048576) (lo : -9223372036854775808 ≤ z) (hi : z ≤ 9223372036854775807) (hr : RdR w a2 n2 c2 r) (_ : r.length + tot r ≤ 1048576) (lo2 : -9223372036854775808 ≤ y) (hi2 : y ≤ 9223372036854775807) :
    Calls Try.prog 46 #[.agg #[.int .i64 z, .slice a n c], .agg #[.int .i64 y, .slice a2 n2 c2]] w (RetRC w (csM z p y r) (csC z p y r)) := by
  have hmm := @run_makeMap Try.prog
  have hmf : ∀ (fn : Fn) (first cap : Array Value) (w : World), (Instr.makeFunc fn first cap).run Try.prog w = .ok (.func fn first cap) w := fun _ _ _ _ => rfl
  have law : Go.Maps.Keyed Try.prog 9 := Go.Maps.string_keyed Try.underlying9
  have hzb : ∀ w : World, (zeroValue 4).run Try.prog w = .ok (.bool false) w := fun w => by kernel_rfl
  have hb1 := hx.le
  have hb2 := hx.max
  have hb3 := hr.le
  have hb4 := hr.max
  have Hl := Lib.hid hx.len
  have Hr := Lib.hid hr.len
  go_enter Try.func46, Try.ntmps46
  go_wp2_with fail
  obtain ⟨W, hW⟩ : ∃ W, ((w.alloc (.cells #[.int .i64 z, .slice a n c] 29)).alloc (.cells #[.int .i64 y, .slice a2 n2 c2] 29)) = W := ⟨_, rfl⟩
  have hEW : Ext w W := by rw [← hW]; exact ((Ext.refl _).alloc _).alloc _
  have HG : Hid (W.heap[w.heap.size]? = some (.cells #[.int .i64 z, .slice a n c] 29 (0, 0))) := Lib.hid (by
    rw [← hW, heap_alloc_old _ _ (by simp)]; exact heap_alloc_new _ _)
  have HH : Hid (W.heap[w.heap.size + 1]? = some (.cells #[.int .i64 y, .slice a2 n2 c2] 29 (0, 0))) := Lib.hid (by
    rw [← hW]
    have := heap_alloc_new (w.alloc (.cells #[.int .i64 z, .slice a n c] 29)) (.cells #[.int .i64 y, .slice a2 n2 c2] 29)
    rwa [show (w.alloc (.cells #[.int .i64 z, .slice a n c] 29)).heap.size = w.heap.size + 1 by simp] at this)
  rw [hW]
  clear hW
  refine (validGroup_any z a n c p _ (hx.ext hEW) lo hi).mono ?_
  rintro e w2 ⟨rfl, hE⟩
  have g0 := cell_blk (k := 0) (heap_ext hE HG.out) rfl
  have g1 := cell_blk (k := 1) (heap_ext hE HG.out) rfl
  have h0 := cell_blk (k := 0) (heap_ext hE HH.out) rfl
  have h1 := cell_blk (k := 1) (heap_ext hE HH.out) rfl
  rcases pbc (GrpOk z p) with ⟨hb, Hb⟩ | ⟨hb, Hb⟩
  · rw [hb]
    clear hb
    go_wp2_with fail
    refine (validGroup_any y a2 n2 c2 r _ (hr.ext (hEW.trans hE)) lo2 hi2).mono ?_
    rintro e w3 ⟨rfl, hE3⟩
    have hE4 := hE.trans hE3
    clear g0 g1 h0 h1
    have g0 := cell_blk (k := 0) (heap_ext hE4 HG.out) rfl
    have g1 := cell_blk (k := 1) (heap_ext hE4 HG.out) rfl
    have h0 := cell_blk (k := 0) (heap_ext hE4 HH.out) rfl
    have h1 := cell_blk (k := 1) (heap_ext hE4 HH.out) rfl
    have hEw := hEW.trans hE4
    rcases pbc (GrpOk y r) with ⟨hb, Hc⟩ | ⟨hb, Hc⟩
    · rw [hb]
      clear hb
      by_cases hzy : z = y
      · have hzb2 : (z != y) = false := by simp [hzy]
        have HZY := Lib.hid hzy
        clear hzy
        obtain ⟨v, hv⟩ : ∃ v, r.any (fun q => !(pb (q ∈ p))) = v := ⟨_, rfl⟩
        have Hv := Lib.hid hv
        clear hv
        go_wp2_with fail
        refine (slContainsFunc_any _ _ _ r _ _ _ _ _ (hr.ext hEw) (enters_of Try.func81 (by kernel_rfl) (by kernel_rfl)) (cos_asks _ z a n c p r _ ⟨g0, g1⟩ (hx.ext hEw) Hb.out.2.2.2.1.sorted (by have h1 := Hl.out; have h2 := Hb.out.2.1.2; omega)) Hv.out).mono ?_
        rintro e w5 ⟨rfl, hE5⟩
        cases v
        · have HS : Hid (∀ q, q ∈ r → q ∈ p) := Lib.hid (fun q hq => by
            have h1 := List.any_eq_false.1 Hv.out q hq
            exact pb_iff.1 (by simpa using h1))
          have hC := Lib.hid (cs_0 ⟨Hb.out, Hc.out⟩ ⟨HZY.out, HS.out⟩)
          have hE6 := hE4.trans hE5
          have hEw6 := hEw.trans hE5
          obtain ⟨z', rfl⟩ := Int.eq_ofNat_of_zero_le (show 0 ≤ z by have := Hb.out.1; omega)
          have hz2 : z' ≤ 32 := by have := Hb.out.1; omega
          have hn2 : n ≤ 720 := by rw [Hl.out]; exact Hb.out.2.1.2
          have hm2 : n2 ≤ 720 := by rw [Hr.out]; exact Hc.out.2.1.2
          have HP : Hid (PermsN z' p) := Lib.hid (by have := Hb.out.perms; simpa using this)
          have HCl : Hid (Closed z' p) := Lib.hid (by have := Hb.out.2.2.2.2; simpa using this)
          clear g0 g1 h0 h1
          have g0 := cell_blk (k := 0) (heap_ext hE6 HG.out) rfl
          have g1 := cell_blk (k := 1) (heap_ext hE6 HG.out) rfl
          have h1 := cell_blk (k := 1) (heap_ext hE6 HH.out) rfl
          have lg : w.heap.size < w5.heap.size := (Array.getElem?_eq_some_iff.1 (heap_ext hE6 HG.out)).1
          have lgn : w.heap.size ≠ w5.heap.size := Nat.ne_of_lt lg
          have lh : w.heap.size + 1 < w5.heap.size := (Array.getElem?_eq_some_iff.1 (heap_ext hE6 HH.out)).1
          have lhn : w.heap.size + 1 ≠ w5.heap.size := Nat.ne_of_lt lh
          have hM0 := World.ownsMap_made w5 Try.prog 9 (plainElem (H := Unit) Try.prog 4)
          go_wp2
          clear lg lgn lh lhn g0 g1 h1
          go_loopg [7, 35] n (fun gh s i wr => ∃ (k m cnt : Nat) (ad : Option Addr) (d : Nat) (rs : List Row), k ≤ n ∧ m ≤ k ∧ cnt ≤ k * 720 ∧ gh = n - k ∧ s = .slice ad m d ∧ i = .int .i64 k ∧ OwnR wr (w5.heap.size + 1) ad m d (csL p r k) rs ∧ wr.ownsMap Try.prog 9 (plainElem (H := Unit) Try.prog 4) (w5.heap.size) cnt (setK (csS p r k)) ∧ Ext w5 wr)
          case atStart => exact ⟨0, 0, 0, none, 0, [], Nat.zero_le _, Nat.le_refl _, Nat.zero_le _, rfl, rfl, rfl, OwnR.nil_ _ _, hM0, (Ext.refl _).alloc _⟩
          case round =>
            clear hM0
            obtain ⟨k, m, cnt, ad, d, rs, hk, hm, hcnt, rfl, rfl, rfl, hO, hM, hE7⟩ := hrel
            have nf : ∀ (w' : World) (ad' : Option Addr) (m' d' : Nat) (L : List (List Int)) (rs' : List Row), OwnR w' (w5.heap.size + 1) ad' m' d' L rs' → ∀ g, OwnR.fp ad' rs' g → ¬ g = w5.heap.size := fun _ _ _ _ _ _ h g hf e => by have := (h.lt hf).1; omega
            by_cases hlt : k < n
            · have hzk : (k : Int) < (n : Int) := by omega
              have hlp : Hid (k < p.length) := Lib.hid (by rw [← Hl.out]; exact hlt)
              have Hpk := Lib.hid (HP.out _ (gr_mem' hlp.out))
              obtain ⟨b, o, ai, ni, ci, rfl, hc0, hrow0⟩ := (hx.ext hEw6).gr hlt
              have HRow5 := Lib.hid hrow0
              have hc := hE7.cell hc0
              have hrow := hrow0.ext hE7
              clear hc0 hrow0
              have hni : ni = z' := by rw [hrow.len]; exact Hpk.out.1
              have hni2 : ni ≤ 32 := by omega
              have HNi := Lib.hid hni
              clear hni
              have hkey := key_str (xs := gr p k) (by rw [Hpk.out.1]; omega)
              have hat := setK_at (csS p r k) (gr p k) (Hpk.out.byt hz2) (fun q hq => (HP.out _ (csS_sub HCl.out HS.out (by have := hlp.out; omega) q hq)).byt hz2)
              go_wp2_with fail
              refine (keyOf_any ai ni ci (gr p k) _ hrow (Hpk.out.byt hz2) (by omega)).mono ?_
              rintro e w8 ⟨rfl, hE8⟩
              have hM8 := om_ext hM hE8
              have hO8 := hO.ext hE8
              have hE9 := hE7.trans hE8
              have hrow8 := hrow.ext hE8
              clear hM hO hE7 hE8 hrow hc
              rcases pbc (gr p k ∈ csS p r k) with ⟨hb, Hin⟩ | ⟨hb, Hin⟩
              · rw [hb] at hat
                have H1 := Lib.hid (csS_old Hin.out)
                have H2 := Lib.hid (csL_old Hin.out)
                rw [← H2.out] at hO8
                go_wp2_with (at_lookup; refine lookup_bool _ rfl _ _ 79 rfl 9 4 law Try.underlying79 Try.underlying4 (hzb _) (w5.heap.size) cnt _ rfl hM8 _ _ rfl hkey true hat ?_)
                rw [← H1.out] at hM8
                clear hat hkey hb
                go_wp2
                go_roundg (n - (k + 1))
                case measure => go_light; omega
                case rel => go_light; exact ⟨k + 1, m, cnt, ad, d, rs, by omega, by omega, by omega, rfl, rfl, by go_num, hO8, hM8, hE9⟩
              · rw [hb] at hat
                have H1 := Lib.hid (csS_new Hin.out)
                have H2 := Lib.hid (csL_new Hin.out)
                have h1 := cell_blk (k := 1) (heap_ext (hE6.trans hE9) HH.out) rfl
                go_wp2_with (at_lookup; refine lookup_bool _ rfl _ _ 79 rfl 9 4 law Try.underlying79 Try.underlying4 (hzb _) (w5.heap.size) cnt _ rfl hM8 _ _ rfl hkey false hat ?_)
                clear hat hkey hb h1
                have hM9 : w8.ownsMap Try.prog 9 (plainElem (H := Unit) Try.prog 4) (w5.heap.size) cnt (setK (csS p r k ++ (r.take 0).map fun x => cmp x (gr p k))) := by simpa using hM8
                clear hM8
                go_wp2
                go_loopg [46] n2 (fun gh i wr => ∃ (j cnt : Nat), j ≤ n2 ∧ cnt ≤ k * 720 + j ∧ gh = n2 - j ∧ i = .int .i64 j ∧ wr.ownsMap Try.prog 9 (plainElem (H := Unit) Try.prog 4) (w5.heap.size) cnt (setK (csS p r k ++ (r.take j).map fun x => cmp x (gr p k))) ∧ OwnR wr (w5.heap.size + 1) ad m d (csL p r k) rs ∧ RdI wr ai ni ci (gr p k) ∧ Ext w5 wr)
                case atStart => exact ⟨0, cnt, Nat.zero_le _, hcnt, rfl, rfl, hM9, hO8, hrow8, hE9⟩
                case round =>
                  clear hM9 hO8 hrow8 hE9 hcnt
                  obtain ⟨j, cnt, hj, hcnt, rfl, rfl, hM, hO, hrow, hE10⟩ := hrel
                  by_cases hlj : j < n2
                  · have hzj : (j : Int) < (n2 : Int) := by omega
                    have hlr : Hid (j < r.length) := Lib.hid (by rw [← Hr.out]; exact hlj)
                    have Hpj := Lib.hid (HP.out _ (HS.out _ (gr_mem' hlr.out)))
                    obtain ⟨b2, o2, aj, nj, cj, rfl, hcj, hrowj⟩ := (hr.ext (hEw6.trans hE10)).gr hlj
                    have Hnj : Hid (nj = z') := Lib.hid (by rw [hrowj.len]; exact Hpj.out.1)
                    have hnj2 : nj ≤ 32 := by have := Hnj.out; omega
                    have Hcm := Lib.hid (PermN'.cmp Hpj.out Hpk.out)
                    have hkey := key_str (xs := cmp (gr r j) (gr p k)) (by rw [Hcm.out.1]; omega)
                    go_wp2_with fail
                    refine (compose_any aj nj cj (gr r j) ai ni ci (gr p k) _ hrowj hrow (by omega) (by rw [HNi.out]; exact Hpj.out.below)).mono ?_
                    rintro e w11 ⟨ar, nr, cr, rfl, hR11, hE11⟩
                    go_wp2_with fail
                    refine (keyOf_any ar nr cr (cmp (gr r j) (gr p k)) _ hR11.rdI (Hcm.out.byt hz2) (by have h8 := hR11.len; rw [Hcm.out.1] at h8; omega)).mono ?_
                    rintro e w12 ⟨rfl, hE12⟩
                    have hE13 := hE11.trans hE12
                    have hM12 := om_ext hM hE13
                    have hO12 := hO.ext hE13
                    have hrow12 := hrow.ext hE13
                    have hEn := hE10.trans hE13
                    clear hM hO hrow hE11 hE12 hE13 hR11 hcj hrowj
                    go_wp2_with (at_mapUpdate; refine wpList_mapUpdate_own _ rfl _ _ _ 79 rfl 9 4 law Try.underlying79 (plainElem (H := Unit) Try.prog 4) (w5.heap.size) cnt _ rfl hM12 (by unfold maxLen; omega) _ _ _ rfl rfl hkey _ [] (plainElem_bool Try.underlying4 true) ?_; intro w14 hown14 hgrow14)
                    have hM14 : w14.ownsMap Try.prog 9 (plainElem (H := Unit) Try.prog 4) (w5.heap.size) (cnt + 1) (setK (csS p r k ++ (r.take (j + 1)).map fun x => cmp x (gr p k))) := by
                      rw [map_take_snoc hlr.out, ← List.append_assoc, setK_snoc]; exact hown14
                    have hO14 := hO12.only (grown_only hgrow14) (fun g hf => nf _ _ _ _ _ _ hO12 g hf)
                    have hE14 : Ext w5 w14 := hEn.grown hgrow14 (fun j hj => by cases hj; omega)
                    have hrow14 : RdI w14 ai ni ci (gr p k) := HRow5.out.ext hE14
                    clear hM12 hO12 hrow12 hEn hown14 hgrow14
                    go_wp2
                    go_roundg (n2 - (j + 1))
                    case measure => go_light; omega
                    case rel => go_light; exact ⟨j + 1, cnt + 1, by omega, by omega, rfl, by go_num, hM14, hO14, hrow14, hE14⟩
                  · have hzj : ¬ (j : Int) < (n2 : Int) := by omega
                    obtain rfl : n2 = j := by omega
                    have HT : Hid (r.take n2 = r) := Lib.hid (List.take_of_length_le (by have := Hr.out; omega))
                    rw [HT.out, ← H1.out] at hM
                    go_wp2_with fail
                    refine (slClone_any ai ni ci (gr p k) _ hrow (by omega)).mono ?_
                    rintro e w11 ⟨a4, n4, c4, rfl, hO4, hE4⟩
                    have hM11 := om_ext hM hE4
                    have hO11 := hO.ext hE4
                    have hE11 := hE10.trans hE4
                    have HLs := Lib.hid (om_lt hM)
                    have hsz : w5.heap.size + 1 ≤ w11.heap.size := by have := HLs.out; have := hE4.size; omega
                    have hR4 := hO4.base (B' := w5.heap.size + 1) (by have := HLs.out; omega)
                    have hap : ∀ g, blk a4 = some g → ¬ OwnR.fp ad rs g := fun g hg hf => by have h1 := (hO.lt hf).2; have h2 := (hO4.lt hg).1; omega
                    clear hM hO hrow hE10 hO4
                    go_wp2_with (at_builtin; refine app_S rfl _ _ rfl hO11 hsz hR4 hap rfl (by omega) rfl rfl ?_; intro ad' d' w12 hrows honly hmv)
                    rw [← H2.out] at hrows
                    have hM12 := om_heap hM11 (honly.block _ (om_lt hM11) (fun e => nf _ _ _ _ _ _ hO11 _ (.inl e) rfl))
                    have hE12 := hE11.app hO11.top honly (by omega)
                    clear hM11 hO11 hE11 hsz hR4 hap honly hmv hE4
                    go_wp2
                    go_roundg (n - (k + 1))
                    case measure => go_light; omega
                    case rel => go_light; exact ⟨k + 1, m + 1, cnt, ad', d', _, by omega, by omega, by omega, rfl, rfl, by go_num, hrows, hM12, hE12⟩
            · have hzk : ¬ (k : Int) < (n : Int) := by omega
              obtain rfl : n = k := by omega
              have HX : Hid (csL p r n = csM (z' : Int) p y r) := Lib.hid (by rw [← hC.out.1, Hl.out])
              go_wp2
              go_ret2
              exact RetRC.mk_ hO (by have := hEw6.size; omega) HX.out hC.out.2 (hEw6.trans hE7)
        · have hC := Lib.hid (cs_6 ⟨Hb.out, Hc.out⟩ (fun h => by
            obtain ⟨q, hq, h1⟩ := List.any_eq_true.1 Hv.out
            have h2 := h.2 q hq
            rw [pb_true h2] at h1; cases h1))
          go_wp2
          go_ret2
          exact RetRC.mk_ (OwnR.nil_ _ _) (Nat.le_refl _) hC.out.1 hC.out.2 (hEw.trans hE5)
      · have hzb2 : (z != y) = true := by simp [hzy]
        have hC := Lib.hid (cs_6 ⟨Hb.out, Hc.out⟩ (fun h => hzy h.1))
        clear hzy
        go_wp2
        go_ret2
        exact RetRC.mk_ (OwnR.nil_ _ _) (Nat.le_refl _) hC.out.1 hC.out.2 (hEw)
    · rw [hb]
      have hC := Lib.hid (cs_1 (z := z) (p := p) (y := y) (r := r) (fun h => Hc.out h.2))
      clear hb
      go_wp2
      go_ret2
      exact RetRC.mk_ (OwnR.nil_ _ _) (Nat.le_refl _) hC.out.1 hC.out.2 (hEw)
  · rw [hb]
    have hC := Lib.hid (cs_1 (z := z) (p := p) (y := y) (r := r) (fun h => Hb.out h.1))
    clear hb
    go_wp2
    go_ret2
    exact RetRC.mk_ (OwnR.nil_ _ _) (Nat.le_refl _) hC.out.1 hC.out.2 (hEW.trans hE)
end Go.Proofs.Ytjlfngnmmmaefaa
