/- CosetsOf of the reference. Conditions: none. -/
import Derived.Test.YtjlfngnmmmaefaaCosP
import Derived.Test.YtjlfngnmmmaefaaVgS
import Derived.Test.YtjlfngnmmmaefaaOwnL
import Derived.Test.YtjlfngnmmmaefaaRst
import Derived.Test.YtjlfngnmmmaefaaFnd
namespace Go.Proofs.Ytjlfngnmmmaefaa
open Go.RowKit
theorem info_boolC : (Try.prog.info? 4).map (fun i => (i.zero, i.size, i.bytes)) = some (some (.bool false), 1, 1) := by kernel_rfl

theorem csM_L {z : Int} {p : List (List Int)} {y : Int} {r : List (List Int)} {n : Nat} (hn : n = p.length) (h : csL p r p.length = csM z p y r) : csL p r n = csM z p y r := by rw [hn]; exact h
set_option maxRecDepth 100000 in
set_option maxHeartbeats 6400000 in
theorem specCos (z : Int) (a : Option Addr) (n c : Nat) (p : List (List Int)) (y : Int) (a2 : Option Addr) (n2 c2 : Nat) (r : List (List Int)) (w : World) (hx : RdR w a n c p) (_ : p.length + tot p ≤ 1048576) (lo : -9223372036854775808 ≤ z) (hi : z ≤ 9223372036854775807) (hr : RdR w a2 n2 c2 r) (_ : r.length + tot r ≤ 1048576) (lo2 : -9223372036854775808 ≤ y) (hi2 : y ≤ 9223372036854775807) :
    Calls Try.prog 45 #[.agg #[.int .i64 z, .slice a n c], .agg #[.int .i64 y, .slice a2 n2 c2]] w (RetRC w (csM z p y r) (csC z p y r)) := by
  have hb1 := hx.le
  have hb2 := hx.max
  have hb3 := hr.le
  have hb4 := hr.max
  have Hl := Lib.hid hx.len
  have Hr := Lib.hid hr.len
  go_enter Try.func45, Try.ntmps45
  go_wp2_with fail
  obtain ⟨W, hW⟩ : ∃ W, ((w.alloc (.cells #[.int .i64 z, .slice a n c] 29)).alloc (.cells #[.int .i64 y, .slice a2 n2 c2] 29)) = W := ⟨_, rfl⟩
  have hEW : Ext w W := by rw [← hW]; exact ((Ext.refl _).alloc _).alloc _
  have HG : Hid (W.heap[w.heap.size]? = some (.cells #[.int .i64 z, .slice a n c] 29 (0, 0))) := Lib.hid (by
    rw [← hW, heap_alloc_old _ _ (by simp)]; exact heap_alloc_new _ _)
  have HH : Hid (W.heap[w.heap.size + 1]? = some (.cells #[.int .i64 y, .slice a2 n2 c2] 29 (0, 0))) := Lib.hid (by
    rw [← hW]
    have := heap_alloc_new (w.alloc (.cells #[.int .i64 z, .slice a n c] 29)) (.cells #[.int .i64 y, .slice a2 n2 c2] 29)
    rwa [show (w.alloc (.cells #[.int .i64 z, .slice a n c] 29)).heap.size = w.heap.size + 1 by simp] at this)
  rw [hW]
  clear hW
  refine (l05Ok_any _ z a n c p _ ⟨cell_blk HG.out rfl, cell_blk HG.out rfl⟩ (hx.ext hEW) lo hi).mono ?_
  rintro e w2 ⟨rfl, hE⟩
  rcases pbc (GrpOk z p) with ⟨hb, Hb⟩ | ⟨hb, Hb⟩
  · rw [hb]
    clear hb
    go_wp2_with fail
    refine (l05Ok_any _ y a2 n2 c2 r _ ⟨cell_blk (heap_ext hE HH.out) rfl, cell_blk (heap_ext hE HH.out) rfl⟩ (hr.ext (hEW.trans hE)) lo2 hi2).mono ?_
    rintro e w3 ⟨rfl, hE3⟩
    have hE4 := hE.trans hE3
    have hEw := hEW.trans hE4
    have HG3 := Lib.hid (heap_ext hE4 HG.out)
    have HH3 := Lib.hid (heap_ext hE4 HH.out)
    rcases pbc (GrpOk y r) with ⟨hb, Hc⟩ | ⟨hb, Hc⟩
    · rw [hb]
      clear hb
      have g0 := cell_blk (k := 0) HG3.out rfl
      have h0 := cell_blk (k := 0) HH3.out rfl
      by_cases hzy : z = y
      · have hzb2 : (z != y) = false := by simp [hzy]
        have HZY := Lib.hid hzy
        clear hzy hE hE3 hE4 hEW
        have HSo := Lib.hid (Hb.out.2.2.2.1.sorted)
        have hn2 : n ≤ 720 := by rw [Hl.out]; exact Hb.out.2.1.2
        have hm2 : n2 ≤ 720 := by rw [Hr.out]; exact Hc.out.2.1.2
        go_wp2
        clear g0 h0
        go_loopg [6] n2 (fun gh ix wr => ∃ j : Nat, j ≤ n2 ∧ gh = n2 - j ∧ ix = .int .i64 j ∧ Ext w3 wr ∧ Hid (∀ i, i < j → gr r i ∈ p))
        case atStart => exact ⟨0, Nat.zero_le _, rfl, rfl, Ext.refl _, Lib.hid (fun i h => absurd h (Nat.not_lt_zero _))⟩
        case round =>
          obtain ⟨j, hj, rfl, rfl, hEr, HS⟩ := hrel
          have h1 := cell_blk (k := 1) (heap_ext hEr HH3.out) rfl
          by_cases hlj : j < n2
          · have hzj : (j : Int) < (n2 : Int) := by omega
            have hg1 := cell_blk (k := 1) (heap_ext hEr HG3.out) rfl
            obtain ⟨b2, o2, aj, nj, cj, rfl, hcj, hrowj⟩ := (hr.ext (hEw.trans hEr)).gr hlj
            have HRowj := Lib.hid hrowj
            have HX5 := Lib.hid (hx.ext (hEw.trans hEr))
            clear hrowj
            go_wp2_with fail
            go_region_held3 (fun w' => w'.cell? ⟨w.heap.size, 1, none⟩ = some (.slice a n c) ∧ w'.cell? ⟨w.heap.size + 1, 1, none⟩ = some (.slice (some ⟨b2, o2, none⟩) n2 c2) ∧ w'.cell? ⟨b2, o2 + j, none⟩ = some (.slice aj nj cj))
              (first | exact ⟨hg1, h1, hcj⟩ | exact ⟨Ext.cell ((Ext.refl _).drew) hg1, Ext.cell ((Ext.refl _).drew) h1, Ext.cell ((Ext.refl _).drew) hcj⟩ | exact ⟨Ext.cell (Ext.trans ((Ext.refl _).drew) (Q.ext hQ9)) hg1, Ext.cell (Ext.trans ((Ext.refl _).drew) (Q.ext hQ9)) h1, Ext.cell (Ext.trans ((Ext.refl _).drew) (Q.ext hQ9)) hcj⟩)
              (first
                | (go_at_call 69; refine (l05Find_any a n c p aj nj cj (gr r j) _ (HX5.out.ext ((Ext.refl _).drew)) (HRowj.out.ext ((Ext.refl _).drew)) HSo.out (by omega)).mono ?_; rintro e w9 ⟨ka, rfl, hQ9, HF9⟩))
            have hE9 : Ext w3 w9 := hEr.trans (Ext.trans ((Ext.refl _).drew) hQ9.ext)
            clear hg1 h1 hcj
            rcases pbc (gr r j ∈ p) with ⟨hb, Hin⟩ | ⟨hb, Hin⟩
            · rw [hb]
              clear hb
              have HS2 : Hid (∀ i, i < j + 1 → gr r i ∈ p) := Lib.hid (fun i hi => by
                by_cases e : i = j
                · subst e; exact Hin.out
                · exact HS.out i (by omega))
              go_wp2
              go_roundg (n2 - (j + 1))
              case measure => go_light; omega
              case rel => go_light; exact ⟨j + 1, by omega, rfl, by go_num, hE9, HS2⟩
            · rw [hb]
              clear hb
              have hC := Lib.hid (cs_6 ⟨Hb.out, Hc.out⟩ (fun h => Hin.out (h.2 _ (gr_mem' (by rw [← Hr.out]; exact hlj)))))
              go_wp2
              go_ret2
              exact RetRC.mk_ (OwnR.nil_ _ _) (Nat.le_refl _) hC.out.1 hC.out.2 (hEw.trans hE9)
          · have hzj : ¬ (j : Int) < (n2 : Int) := by omega
            obtain rfl : n2 = j := by omega
            have HSub : Hid (∀ q, q ∈ r → q ∈ p) := Lib.hid (fun q hq => by
              obtain ⟨i, hi, rfl⟩ := mem_gr hq
              exact HS.out i (by rw [Hr.out]; exact hi))
            have hC := Lib.hid (cs_0 ⟨Hb.out, Hc.out⟩ ⟨HZY.out, HSub.out⟩)
            obtain ⟨z', rfl⟩ := Int.eq_ofNat_of_zero_le (show 0 ≤ z by have := Hb.out.1; omega)
            have hz2 : z' ≤ 32 := by have := Hb.out.1; omega
            have HP : Hid (PermsN z' p) := Lib.hid (by have := Hb.out.perms; simpa using this)
            have HCl : Hid (Closed z' p) := Lib.hid (by have := Hb.out.2.2.2.2; simpa using this)
            have HSt := Lib.hid Hb.out.2.2.2.1
            have hmk := run_make_row' (P := Try.prog) 77 4 (.bool false) 1 Try.underlying77 info_boolC rfl .i64 .i64 n (by omega) (by omega)
            have hgr := cell_blk (k := 1) (heap_ext hEr HG3.out) rfl
            have lg : w.heap.size < wr.heap.size := (Array.getElem?_eq_some_iff.1 (heap_ext hEr HG3.out)).1
            have lgn : w.heap.size ≠ wr.heap.size := Nat.ne_of_lt lg
            have lh : w.heap.size + 1 < wr.heap.size := (Array.getElem?_eq_some_iff.1 (heap_ext hEr HH3.out)).1
            have lhn : w.heap.size + 1 ≠ wr.heap.size := Nat.ne_of_lt lh
            obtain ⟨wL, rfl⟩ : ∃ wL : World, wL = wr := ⟨_, rfl⟩
            have HGL := Lib.hid (heap_ext hEr HG3.out)
            have HHL := Lib.hid (heap_ext hEr HH3.out)
            have hEL := hEw.trans hEr
            have R0 := OwnR.empty wL
            have D0 := (own_made (wL.alloc (.cells #[] 26)) 4 Value.bool false n (by omega)).base (B' := wL.heap.size) (by simp)
            have R1 := R0.ext ((Ext.refl _).alloc (.cells (madeCells #[Value.bool false] n) 4))
            have E1 : Ext wL ((wL.alloc (.cells #[] 26)).alloc (.cells (madeCells #[Value.bool false] n) 4)) := ((Ext.refl _).alloc _).alloc _
            have hsz1 : (wL.alloc (.cells #[] 26)).heap.size = wL.heap.size + 1 := by simp
            have HA0 : Hid (∀ g, OwnR.fp (some ⟨wL.heap.size, 0, none⟩) [] g → g ≠ wL.heap.size + 1) := Lib.hid (fun g h e => by have := (R0.lt h).2; rw [hsz1] at this; omega)
            rw [hsz1] at D0
            clear hEw hEr HG3 HH3 HG HH
            go_wp2
            clear hmk lg lgn lh lhn hgr h1
            go_loopg [9, 11] n (fun gh s ix wr => ∃ (k m : Nat) (ad : Option Addr) (d : Nat) (rs : List Row) (sd : List Bool), k ≤ n ∧ m ≤ k ∧ gh = n - k ∧ s = .slice ad m d ∧ ix = .int .i64 k ∧ OwnR wr wL.heap.size ad m d (csL p r k) rs ∧
              OwnB wr wL.heap.size (some ⟨wL.heap.size + 1, 0, none⟩) n n sd ∧ Hid (Dn p (csS p r k) sd) ∧ Hid (∀ g, OwnR.fp ad rs g → g ≠ wL.heap.size + 1) ∧ Ext wL wr)
            case atStart => exact ⟨0, 0, _, 0, [], _, Nat.zero_le _, Nat.le_refl _, rfl, rfl, rfl, R1, D0, Lib.hid (by rw [Hl.out]; exact Dn.start p), HA0, E1⟩
            case round =>
              clear R0 R1 D0 E1 HA0
              obtain ⟨k, m, ad, d, rs, sd, hk, hm, rfl, rfl, rfl, hO, hD, HD, HA, hE⟩ := hrel
              have hg1 := cell_blk (k := 1) (heap_ext hE HGL.out) rfl
              by_cases hlt : k < n
              · have hzk : (k : Int) < (n : Int) := by omega
                have hlp : Hid (k < p.length) := Lib.hid (by rw [← Hl.out]; exact hlt)
                have Hpk := Lib.hid (HP.out _ (gr_mem' hlp.out))
                obtain ⟨gD, bv, hh, _, hcd, _, hbv⟩ := hD.at_ (k := k) hlt
                cases hh
                have hsn := HD.out.2 k hlp.out
                rw [sn_of hbv.out] at hsn
                rcases pbc (gr p k ∈ csS p r k) with ⟨hb, Hin⟩ | ⟨hb, Hin⟩
                · rw [hb] at hsn
                  subst hsn
                  have H1 := Lib.hid (csS_old Hin.out)
                  have H2 := Lib.hid (csL_old Hin.out)
                  have HD2 : Hid (Dn p (csS p r (k + 1)) sd) := Lib.hid (by rw [H1.out]; exact HD.out)
                  rw [← H2.out] at hO
                  clear hb hbv
                  go_wp2
                  go_roundg (n - (k + 1))
                  case measure => go_light; omega
                  case rel => go_light; exact ⟨k + 1, m, ad, d, rs, sd, by omega, by omega, rfl, rfl, by go_num, hO, hD, HD2, HA, hE⟩
                · rw [hb] at hsn
                  subst hsn
                  have H1 := Lib.hid (csS_new Hin.out)
                  have H2 := Lib.hid (csL_new Hin.out)
                  clear hb hbv
                  obtain ⟨b, o, ai, ni, ci, rfl, hc, hrow⟩ := (hx.ext (hEL.trans hE)).gr hlt
                  have hni : ni = z' := by rw [hrow.len]; exact Hpk.out.1
                  have hni2 : ni ≤ 32 := by omega
                  have HNi := Lib.hid hni
                  clear hni
                  go_wp2_with fail
                  refine (l00Own_any ai ni ci (gr p k) _ hrow (by omega)).mono ?_
                  rintro e w6 ⟨a4, n4, c4, rfl, hO4, hE4⟩
                  have hO6 := hO.ext hE4
                  have hD6 := hD.ext hE4
                  have hE6 := hE.trans hE4
                  have hsz := hE6.size
                  have hR4 := hO4.base (B' := wL.heap.size) hE.size
                  have hap : ∀ g, blk a4 = some g → ¬ OwnR.fp ad rs g := fun g hg hf => by have h1 := (hO.lt hf).2; have h2 := (hO4.lt hg).1; omega
                  have HA4 : Hid (∀ g, blk a4 = some g → g ≠ wL.heap.size + 1) := Lib.hid (fun g hg e => by have h1 := (hD.lt (g := wL.heap.size + 1) rfl).2; have h2 := (hO4.lt hg).1; omega)
                  have HLd := Lib.hid (hD6.lt (g := wL.heap.size + 1) rfl).2
                  clear hO hD hE hrow hc hcd hO4 hg1
                  go_wp2_with (at_builtin; refine app_S rfl _ _ rfl hO6 hsz hR4 hap rfl (by omega) rfl rfl ?_; intro ad' d' w8 hrows honly hmv)
                  rw [← H2.out] at hrows
                  have hD8 := hD6.only honly (fun g hg e => HA.out g (.inl e) (blk_eq hg).symm)
                  have HA8 : Hid (∀ g, OwnR.fp ad' (rs ++ [(a4, n4, c4)]) g → g ≠ wL.heap.size + 1) := Lib.hid (fun g hf => by
                    rcases hf with h1 | ⟨r', h1, h2⟩
                    · rcases hmv with h3 | ⟨g', h3, h4⟩
                      · exact HA.out g (.inl (by rw [← h3]; exact h1))
                      · rw [h1] at h3
                        cases h3
                        have := HLd.out; omega
                    · rcases List.mem_append.1 h1 with h1 | h1
                      · exact HA.out g (.inr ⟨r', h1, h2⟩)
                      · simp at h1
                        subst h1
                        exact HA4.out g h2)
                  have hE8 := hE6.app hO6.top honly (Nat.le_refl _)
                  have HD8 : Hid (Dn p (csS p r k ++ (r.take 0).map fun x => cmp x (gr p k)) sd) := Lib.hid (by simpa using HD.out)
                  clear hO6 hD6 hE6 hsz hR4 hap honly hmv hE4
                  go_wp2
                  go_loopg [12] n2 (fun gh ix wi => ∃ (j : Nat) (sd : List Bool), j ≤ n2 ∧ gh = n2 - j ∧ ix = .int .i64 j ∧ OwnR wi wL.heap.size ad' (m + 1) d' (csL p r (k + 1)) (rs ++ [(a4, n4, c4)]) ∧
                    OwnB wi wL.heap.size (some ⟨wL.heap.size + 1, 0, none⟩) n n sd ∧ Hid (Dn p (csS p r k ++ (r.take j).map fun x => cmp x (gr p k)) sd) ∧ Ext wL wi)
                  case atStart => exact ⟨0, sd, Nat.zero_le _, rfl, rfl, hrows, hD8, HD8, hE8⟩
                  case round =>
                    clear hrows hD8 HD8 hE8
                    obtain ⟨j, sd, hj, rfl, rfl, hO, hD, HDj, hE⟩ := hrel
                    have hh1 := cell_blk (k := 1) (heap_ext hE HHL.out) rfl
                    by_cases hlj : j < n2
                    · have hzj : (j : Int) < (n2 : Int) := by omega
                      have hlr : Hid (j < r.length) := Lib.hid (by rw [← Hr.out]; exact hlj)
                      have Hpj := Lib.hid (HP.out _ (HSub.out _ (gr_mem' hlr.out)))
                      have hg1 := cell_blk (k := 1) (heap_ext hE HGL.out) rfl
                      obtain ⟨b2, o2, aj, nj, cj, rfl, hcj, hrowj⟩ := (hr.ext (hEL.trans hE)).gr hlj
                      obtain ⟨b', o', ai', ni', ci', hh, hc, hrow⟩ := (hx.ext (hEL.trans hE)).gr hlt
                      cases hh
                      have HNj : Hid (nj ≤ 32) := Lib.hid (by rw [hrowj.len, Hpj.out.1]; exact hz2)
                      have HBe : Hid (Below_ (gr r j) ni') := Lib.hid (by rw [hrow.len, Hpk.out.1]; exact Hpj.out.below)
                      have HRowj := Lib.hid hrowj
                      have HRow := Lib.hid hrow
                      have HX5 := Lib.hid (hx.ext (hEL.trans hE))
                      clear hrowj hrow
                      go_wp2_with fail
                      go_region_held3 (fun w' => w'.cell? ⟨w.heap.size, 1, none⟩ = some (.slice (some ⟨b, o, none⟩) n c) ∧ w'.cell? ⟨w.heap.size + 1, 1, none⟩ = some (.slice (some ⟨b2, o2, none⟩) n2 c2) ∧ w'.cell? ⟨b2, o2 + j, none⟩ = some (.slice aj nj cj) ∧ w'.cell? ⟨b, o + k, none⟩ = some (.slice ai' ni' ci'))
                        (first | exact ⟨hg1, hh1, hcj, hc⟩ | exact ⟨Ext.cell ((Ext.refl _).drew) hg1, Ext.cell ((Ext.refl _).drew) hh1, Ext.cell ((Ext.refl _).drew) hcj, Ext.cell ((Ext.refl _).drew) hc⟩ | exact ⟨Ext.cell (Ext.trans ((Ext.refl _).drew) hE11) hg1, Ext.cell (Ext.trans ((Ext.refl _).drew) hE11) hh1, Ext.cell (Ext.trans ((Ext.refl _).drew) hE11) hcj, Ext.cell (Ext.trans ((Ext.refl _).drew) hE11) hc⟩ | exact ⟨Ext.cell (Ext.trans (Ext.trans ((Ext.refl _).drew) hE11) (Q.ext hQ12)) hg1, Ext.cell (Ext.trans (Ext.trans ((Ext.refl _).drew) hE11) (Q.ext hQ12)) hh1, Ext.cell (Ext.trans (Ext.trans ((Ext.refl _).drew) hE11) (Q.ext hQ12)) hcj, Ext.cell (Ext.trans (Ext.trans ((Ext.refl _).drew) hE11) (Q.ext hQ12)) hc⟩)
                        (first
                          | (go_at_call 79; refine (l04Times_any aj nj cj (gr r j) ai' ni' ci' (gr p k) _ (HRowj.out.ext ((Ext.refl _).drew)) (HRow.out.ext ((Ext.refl _).drew)) (by have := HNj.out; omega) HBe.out).mono ?_; rintro e w11 ⟨a11, n11, c11, rfl, hR11, hE11⟩)
                          | (go_at_call 69; refine (l05Find_any (some ⟨b, o, none⟩) n c p a11 n11 c11 (cmp (gr r j) (gr p k)) _ (HX5.out.ext (Ext.trans ((Ext.refl _).drew) hE11)) hR11.rdI HSo.out (by omega)).mono ?_; rintro e w12 ⟨ka, rfl, hQ12, HF12⟩))
                      have hE13 : Ext wr w12 := Ext.trans (Ext.trans ((Ext.refl _).drew) hE11) (Q.ext hQ12)
                      have HCm : Hid (cmp (gr r j) (gr p k) ∈ p) := Lib.hid (HCl.out.2 _ _ (HSub.out _ (gr_mem' hlr.out)) (gr_mem' hlp.out))
                      have HKa := Lib.hid (HF12.out.2.1 HCm.out)
                      have hka : ka < n := by rw [Hl.out]; exact HKa.out.1
                      have hkz : (ka : Int) < (n : Int) := by omega
                      have hO13 := hO.ext hE13
                      have hD13 := hD.ext hE13
                      have hEn := hE.trans hE13
                      obtain ⟨gD, bv, hh, hBd, hcd, hfd, -⟩ := hD13.at_ (k := ka) hka
                      cases hh
                      have hO14 := hO13.setOther (p := ⟨wL.heap.size + 1, ka, none⟩) (fun h => HA8.out _ h rfl) (.bool true)
                      have hD14 := hD13.set (k := ka) rfl true
                      have hE14 := hEn.setCell (p := ⟨wL.heap.size + 1, ka, none⟩) (Nat.le_succ _) (.bool true)
                      have HD14 : Hid (Dn p (csS p r k ++ (r.take (j + 1)).map fun x => cmp x (gr p k)) (sd.set ka true)) := Lib.hid (by
                        rw [map_take_snoc hlr.out, ← List.append_assoc, ← HKa.out.2]
                        exact HDj.out.put HSt.out HKa.out.1)
                      clear hO hD hE hg1 hh1 hcj hc hE11 hQ12 hR11 hE13 hO13 hD13 hEn
                      go_wp2
                      go_roundg (n2 - (j + 1))
                      case measure => go_light; omega
                      case rel => go_light; exact ⟨j + 1, _, by omega, rfl, by go_num, hO14, hD14, HD14, hE14⟩
                    · have hzj : ¬ (j : Int) < (n2 : Int) := by omega
                      obtain rfl : n2 = j := by omega
                      have HT : Hid (r.take n2 = r) := Lib.hid (List.take_of_length_le (by have := Hr.out; omega))
                      have HDn : Hid (Dn p (csS p r (k + 1)) sd) := Lib.hid (by rw [H1.out]; have := HDj.out; rwa [HT.out] at this)
                      go_wp2
                      go_roundg (n - (k + 1))
                      case measure => go_light; omega
                      case rel => go_light; exact ⟨k + 1, m + 1, ad', d', _, sd, by omega, by omega, rfl, rfl, by go_num, hO, hD, HDn, HA8, hE⟩
              · have hzk : ¬ (k : Int) < (n : Int) := by omega
                obtain rfl : n = k := by omega
                have HX := Lib.hid (csM_L Hl.out hC.out.1)
                go_wp2
                go_ret2
                exact RetRC.mk_ hO (by have := hEL.size; omega) HX.out hC.out.2 (hEL.trans hE)
      · have hzb2 : (z != y) = true := by simp [hzy]
        have hC := Lib.hid (cs_6 ⟨Hb.out, Hc.out⟩ (fun h => hzy h.1))
        clear hzy
        go_wp2
        go_ret2
        exact RetRC.mk_ (OwnR.nil_ _ _) (Nat.le_refl _) hC.out.1 hC.out.2 (hEw)
    · rw [hb]
      have hC := Lib.hid (cs_1 (z := z) (p := p) (y := y) (r := r) (fun h => Hc.out h.2))
      clear hb
      go_wp2
      go_ret2
      exact RetRC.mk_ (OwnR.nil_ _ _) (Nat.le_refl _) hC.out.1 hC.out.2 (hEw)
  · rw [hb]
    have hC := Lib.hid (cs_1 (z := z) (p := p) (y := y) (r := r) (fun h => Hb.out h.1))
    clear hb
    go_wp2
    go_ret2
    exact RetRC.mk_ (OwnR.nil_ _ _) (Nat.le_refl _) hC.out.1 hC.out.2 (hEW.trans hE)
end Go.Proofs.Ytjlfngnmmmaefaa
