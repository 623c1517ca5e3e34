/- Valid groups, by the reference. Conditions: none. -/
import Derived.Test.YtjlfngnmmmaefaaVgP
import Derived.Test.YtjlfngnmmmaefaaCls
import Derived.Test.YtjlfngnmmmaefaaSame10
import Derived.Test.YtjlfngnmmmaefaaPermS
import Derived.Test.YtjlfngnmmmaefaaBx
namespace Go.Proofs.Ytjlfngnmmmaefaa
open Go.RowKit

theorem gen_nil {n : Nat} {x : List Int} (h : Gen n [] x) : x = upto n := by
  induction h with
  | one => rfl
  | step _ hg _ => cases hg
theorem nil_small (n : Nat) : ¬ Big n [] 1 := by
  rintro ⟨L, h1, h2, h3⟩
  have := List.Nodup.length_le_of_subset (l₁ := L) (l₂ := [upto n]) h1 (fun x hx => List.mem_singleton.2 (gen_nil (h2 x hx)))
  rw [List.length_singleton] at this
  omega

set_option maxRecDepth 100000 in
set_option maxHeartbeats 3200000 in
theorem l05Gens_any (n : Nat) (a : Option Addr) (m c : Nat) (E : List (List Int)) (w : World) (hg : RdR w a m c E) (hp : PermsN n E) (hs : Strict E) (hn1 : 1 ≤ n) (hn : n ≤ 32) (hm1 : 1 ≤ m) (hm : m ≤ 720) :
    Calls Try.prog 71 #[.int .i64 n, .slice a m c] w fun e w' => ∃ a' m' c', e = .returned (.tuple #[.slice a' m' c', .bool (pb (Closed n E))]) ∧ Ext w w' ∧ ∃ L, (∃ rs, OwnR w' w.heap.size a' m' c' L rs) ∧ Hid (Closed n E → L = grd n E E.length) := by
  have hb1 := hg.le
  have hb2 := hg.max
  have Hl := Lib.hid hg.len
  have HP := Lib.hid hp
  have HS := Lib.hid hs
  clear hp hs
  have H0 := OwnR.empty w
  have hE0 : Ext w (w.alloc (.cells #[] 26)) := (Ext.refl _).alloc _
  go_enter Try.func71, Try.ntmps71
  go_wp2_with fail
  refine (l05Close_any n _ _ _ [] 1 _ H0.rd (fun g hg => by cases hg) hn1 hn (Nat.le_refl _) (by omega) (by omega)).mono ?_
  rintro e w2 ⟨aH, mH, cH, rfl, hE2, Hs, hrdH, HH⟩
  rw [pb_true (nil_small n)]
  have hO0 := H0.ext hE2
  have hE1 := hE0.trans hE2
  clear H0 hE0 hE2
  go_wp2
  go_loopg [6, 7, 9] m (fun gh s t i wr => ∃ (k : Nat) (aO : Option Addr) (mO cO : Nat) (rsO : List Row) (aH : Option Addr) (mH cH : Nat) (H : List (List Int)), k ≤ m ∧ gh = m - k ∧ s = .slice aO mO cO ∧ t = .slice aH mH cH ∧ i = .int .i64 k ∧
    OwnR wr w.heap.size aO mO cO (grd n E k) rsO ∧ RdR wr aH mH cH H ∧ Hid (IsGen n (grd n E k) H ∧ H.length ≤ 720) ∧ Ext w wr)
  case atStart => exact ⟨0, _, 0, 0, [], aH, mH, cH, Hs, Nat.zero_le _, rfl, rfl, rfl, rfl, hO0, hrdH, Lib.hid ⟨(HH.out (nil_small n)).1, by have := (HH.out (nil_small n)).2; omega⟩, hE1⟩
  case round =>
    clear hO0 hrdH hE1
    obtain ⟨k, aO, mO, cO, rsO, aH, mH, cH, H, hk, rfl, rfl, rfl, rfl, hO, hrd, HG, hE⟩ := hrel
    by_cases hlt : k < m
    · have hz : (k : Int) < (m : Int) := by omega
      have hkE : k < E.length := by rw [← Hl.out]; exact hlt
      obtain ⟨b, o, ai, ni, ci, rfl, hc0, hrow⟩ := hg.gr hlt
      have hc := hE.cell hc0
      have hpk := HP.out _ (gr_mem' hkE)
      have hni : ni = n := by rw [hrow.len]; exact hpk.1
      have Hpk := Lib.hid hpk
      have Hni := Lib.hid hni
      have HkE := Lib.hid hkE
      have hmO : mO ≤ 720 := by have h1 := hO.len; have h2 := grd_len n E k; omega
      clear hpk hni hkE
      go_wp2_with fail
      refine (l05Find_any _ _ _ H ai ni ci (gr E k) _ hrd (hrow.ext hE) HG.out.1.1 (by have h1 := hrd.len; have h2 := HG.out.2; omega)).mono ?_
      rintro e w5 ⟨ka, rfl, hQ5, _⟩
      have hE5 := hQ5.ext
      rcases pbc (gr E k ∈ H) with ⟨hb, Hb⟩ | ⟨hb, Hb⟩
      · rw [hb]
        have hgen := grd_yes ((HG.out.1.2.2 _).1 Hb.out)
        have hO5 := hO.ext hE5
        have hrd5 := hrd.ext hE5
        have hEn := hE.trans hE5
        rw [← hgen] at hO5
        have HG2 : Hid (IsGen n (grd n E (k + 1)) H ∧ H.length ≤ 720) := Lib.hid (by rw [hgen]; exact HG.out)
        clear hgen hO hrd hE hE5 hQ5 hb hc
        go_wp2
        go_roundg (m - (k + 1))
        case measure => go_light; omega
        case rel => go_light; exact ⟨k + 1, aO, mO, cO, rsO, aH, mH, cH, H, by omega, rfl, rfl, rfl, by go_num, hO5, hrd5, HG2, hEn⟩
      · rw [hb]
        have hgen := grd_no (fun h => Hb.out ((HG.out.1.2.2 _).2 h))
        have hO5 := hO.ext hE5
        have hE6 := hE.trans hE5
        have hc6 := hE6.cell hc0
        clear hO hrd hE hE5 hQ5 hb hc
        go_wp2_with fail
        refine (l00Own_any ai ni ci (gr E k) _ (hrow.ext hE6) (by have := Hni.out; omega)).mono ?_
        rintro e w6 ⟨ar, nr, cr, rfl, hR, hE7⟩
        have hO7 := hO5.ext hE7
        have hE8 := hE6.trans hE7
        have hsz := hE8.size
        have hR7 := hR.base hE6.size
        have hap : ∀ g, blk ar = some g → ¬ OwnR.fp aO rsO g := fun g hg hf => by have h1 := (hO5.lt hf).2; have h2 := (hR.lt hg).1; omega
        go_wp2_with (at_builtin; refine app_S rfl _ _ rfl hO7 hsz hR7 hap rfl (by omega) rfl rfl ?_; intro aO2 cO2 w8 hrows honly hmv)
        rw [← hgen] at hrows
        have hE9 := hE8.app hO7.top honly (Nat.le_refl _)
        have Hgen := Lib.hid hgen
        clear hO5 hO7 hE6 hE7 hE8 hsz hR hR7 hap honly hmv hc6 hgen
        refine (l05Close_any n _ _ _ (grd n E (k + 1)) m _ hrows.rd (grd_perms HP.out (by have := HkE.out; omega)) hn1 hn hm1 (by omega) (by omega)).mono ?_
        rintro e w9 ⟨aH2, mH2, cH2, rfl, hE10, H2, hrd2, HH2⟩
        have hEn := hE9.trans hE10
        rcases pbc (Big n (grd n E (k + 1)) m) with ⟨hb, HBg⟩ | ⟨hb, HBg⟩
        · rw [pb_false (fun h => h HBg.out)]
          have hnc : Hid (¬ Closed n E) := Lib.hid (fun hc => closed_small hc (grd_sub (by have := HkE.out; omega)) (by rw [← Hl.out]; exact Nat.le_refl _) HBg.out)
          clear hb hrows
          go_wp2
          go_ret2
          exact ⟨none, 0, 0, by rw [pb_false hnc.out]; rfl, hEn, [], ⟨[], OwnR.nil_ _ _⟩, Lib.hid (fun h => absurd h hnc.out)⟩
        · rw [pb_true HBg.out]
          have hOn := hrows.ext hE10
          have HG2 : Hid (IsGen n (grd n E (k + 1)) H2 ∧ H2.length ≤ 720) := Lib.hid ⟨(HH2.out HBg.out).1, by have := (HH2.out HBg.out).2; omega⟩
          clear hb hrows hE9 hE10
          go_wp2
          go_roundg (m - (k + 1))
          case measure => go_light; omega
          case rel => go_light; exact ⟨k + 1, aO2, mO + 1, cO2, _, aH2, mH2, cH2, H2, by omega, rfl, rfl, rfl, by go_num, hOn, hrd2, HG2, hEn⟩
    · have hz : ¬ (k : Int) < (m : Int) := by omega
      obtain rfl : m = k := by omega
      have hgr : grd n E m = grd n E E.length := by rw [Hl.out]
      have hL : IsGen n (grd n E E.length) H := by rw [← hgr]; exact HG.out.1
      have HL := Lib.hid hL
      rw [hgr] at hO
      clear hL hgr
      go_wp2_with fail
      refine (l10Same_any _ _ _ _ _ _ H E (pb (Closed n E)) _ hrd (hg.ext hE) (by
        by_cases hc : Closed n E
        · rw [pb_true hc]; exact decide_eq_true ((closed_eq HS.out HP.out HL.out).1 hc)
        · rw [pb_false hc]; exact decide_eq_false (fun h => hc ((closed_eq HS.out HP.out HL.out).2 h)))).mono ?_
      rintro e w5 ⟨rfl, hQ5⟩
      have hO5 := hO.ext hQ5.ext
      have hEn := hE.trans hQ5.ext
      clear hO hrd hE hQ5
      go_wp2
      go_ret2
      exact ⟨_, _, _, rfl, hEn, _, ⟨_, hO5⟩, Lib.hid (fun _ => rfl)⟩

set_option maxRecDepth 100000 in
set_option maxHeartbeats 3200000 in
theorem l05Ok_any (b0 : Nat) (z : Int) (a : Option Addr) (n c : Nat) (p : List (List Int)) (w : World) (hB : Bx w b0 z a n c) (hx : RdR w a n c p) (lo : -9223372036854775808 ≤ z) (hi : z ≤ 9223372036854775807) :
    Calls Try.prog 47 #[.pointer (some ⟨b0, 0, none⟩)] w fun e w' => e = .returned (.bool (pb (GrpOk z p))) ∧ Ext w w' := by
  have hb1 := hx.le
  have hb2 := hx.max
  have Hl := Lib.hid hx.len
  obtain ⟨p0, p1⟩ := hB.ext (Ext.refl w)
  have HB := Lib.hid hB
  clear hB
  go_enter Try.func47, Try.ntmps47
  by_cases hz : 1 ≤ z ∧ z ≤ 32
  · have Hz := Lib.hid hz
    have hz1 : 1 ≤ z := hz.1
    have hz2 : z ≤ 32 := hz.2
    clear hz
    go_wp2_with fail
    refine (l00In_any _ _ _ true (decide_eq_true Hz.out) _).mono ?_
    rintro e w2 ⟨rfl, rfl⟩
    by_cases hn0 : n = 0
    · have he : ((n : Int) == 0) = true := by simp [hn0]
      have Hn0 := Lib.hid hn0
      clear hn0
      go_wp2
      go_ret
      exact ⟨ret_npb (fun h => by have h1 := h.2.1.1; have h2 := Hl.out; have h3 := Hn0.out; omega), Ext.refl _⟩
    · have he : ((n : Int) == 0) = false := by simp [hn0]
      by_cases h720 : (720 : Int) < (n : Int)
      · have hg : decide ((720 : Int) < (n : Int)) = true := decide_eq_true h720
        have H720 := Lib.hid h720
        clear h720 hn0
        go_wp2
        go_ret
        exact ⟨ret_npb (fun h => by have h1 := h.2.1.2; have h2 := Hl.out; have h3 := H720.out; omega), Ext.refl _⟩
      · have hg : decide ((720 : Int) < (n : Int)) = false := decide_eq_false h720
        have hn1 : 1 ≤ n := by omega
        have hn2 : n ≤ 720 := by omega
        clear h720 hn0
        go_wp2
        go_loopg [3] n (fun gh i wr => ∃ k : Nat, k ≤ n ∧ gh = n - k ∧ i = .int .i64 k ∧ Q w wr ∧ Hid ((∀ j, j < k → ((gr p j).length : Int) = z ∧ PermOk (gr p j)) ∧ ∀ j, 0 < j → j < k → cmpL (gr p (j - 1)) (gr p j) < 0))
        case atStart => exact ⟨0, Nat.zero_le _, rfl, rfl, Q.refl _, Lib.hid ⟨fun j h => absurd h (Nat.not_lt_zero _), fun j _ h => absurd h (Nat.not_lt_zero _)⟩⟩
        case round =>
          obtain ⟨k, hk, rfl, rfl, hQ, HP⟩ := hrel
          obtain ⟨p0, p1⟩ := HB.out.ext hQ.ext
          by_cases hlt : k < n
          · have hxw := hx.ext hQ.ext
            have hzk : (k : Int) < (n : Int) := by omega
            have bad : (¬ (((gr p k).length : Int) = z ∧ PermOk (gr p k)) ∨ 0 < k ∧ ¬ cmpL (gr p (k - 1)) (gr p k) < 0) → ∀ m, Ending.returned (.bool false) = .returned (.bool (pb (GrpOk z p))) ∧ Ext w (wr.drewN m) := fun h m =>
              ⟨ret_npb (fun h2 => by
                have hkl : k < p.length := by have := Hl.out; omega
                rcases h with h | h
                · exact h (h2.2.2.1 _ (gr_mem' hkl))
                · exact h.2 (h2.2.2.2.1 k h.1 hkl)), hQ.ext.drewN _⟩
            have Bad := Lib.hid bad
            have good : (((gr p k).length : Int) = z ∧ PermOk (gr p k)) → (0 < k → cmpL (gr p (k - 1)) (gr p k) < 0) → Hid ((∀ j, j < k + 1 → ((gr p j).length : Int) = z ∧ PermOk (gr p j)) ∧ ∀ j, 0 < j → j < k + 1 → cmpL (gr p (j - 1)) (gr p j) < 0) := fun h1 h2 => ⟨fun j hj => by
              by_cases e : j = k
              · subst e; exact h1
              · exact HP.out.1 j (by omega), fun j hj0 hj => by
              by_cases e : j = k
              · subst e; exact h2 hj0
              · exact HP.out.2 j hj0 (by omega)⟩
            have Good := Lib.hid good
            clear bad good
            cases k with
            | zero =>
              obtain ⟨b, o, ai, ni, ci, rfl, hc, hrow⟩ := hxw.gr hlt
              rw [Nat.add_zero] at hc
              have hz0 : (0 : Int) < (n : Int) := by omega
              have hn0' : ¬ n = 0 := by omega
              have hn0b : 0 < n := by omega
              have HM := Lib.hid hrow.len
              rcases pbc (PermOk (gr p 0)) with ⟨hb, Hb⟩ | ⟨hb, Hb⟩
              · have kb : ∀ m, Calls Try.prog 62 #[.slice ai ni ci] (wr.drewN m) fun e w' => e = .returned (.bool true) ∧ Q (wr.drewN m) w' := fun m => by
                  have := l04Ok_any ai ni ci (gr p 0) (wr.drewN m) (RdI.ext hrow ((Ext.refl _).drewN _))
                  rwa [hb] at this
                by_cases hl : (ni : Int) = z
                · have hne : ((ni : Int) != z) = false := by simp [hl]
                  have Hll := Lib.hid hl
                  clear hl
                  go_wp2_with fail
                  go_quiet ((go_at_call 62; exact quiet_q (kb _)))
                  go_wp2
                  go_roundg (n - 1)
                  case measure => go_light; omega
                  case rel => go_light; exact ⟨1, by omega, rfl, by go_num, hQ.drewN _, Good.out ⟨by rw [← HM.out]; exact Hll.out, Hb.out⟩ (fun h => by omega)⟩
                · have hne : ((ni : Int) != z) = true := by simp [hl]
                  have Hll := Lib.hid hl
                  clear hl
                  go_wp2_with fail
                  go_quiet ((go_at_call 62; exact quiet_q (kb _)))
                  go_wp2
                  go_ret
                  exact Bad.out (.inl (fun h => Hll.out (by rw [HM.out]; exact h.1))) _
              · have kb : ∀ m, Calls Try.prog 62 #[.slice ai ni ci] (wr.drewN m) fun e w' => e = .returned (.bool false) ∧ Q (wr.drewN m) w' := fun m => by
                  have := l04Ok_any ai ni ci (gr p 0) (wr.drewN m) (RdI.ext hrow ((Ext.refl _).drewN _))
                  rwa [hb] at this
                go_wp2_with fail
                go_quiet ((go_at_call 62; exact quiet_q (kb _)))
                go_wp2
                go_ret
                exact Bad.out (.inl (fun h => Hb.out h.2)) _
            | succ j =>
              obtain ⟨b, o, ai, ni, ci, rfl, hc, hrow⟩ := hxw.gr hlt
              obtain ⟨b', o', ai', ni', ci', hh, hc2, hrow2⟩ := hxw.gr (k := j) (by omega)
              cases hh
              have HM := Lib.hid hrow.len
              have hzj1 : (j : Int) + 1 < (n : Int) := by omega
              have hzj2 : (j : Int) < (n : Int) := by omega
              have hd : decide ((0 : Int) < (j : Int) + 1) = true := decide_eq_true (by omega)
              have hd1 : (0 : Int) < (j : Int) + 1 := by omega
              have hw1 : IntKind.i64.wrap (j : Int) = (j : Int) := IntWalk.i64_in _ (by omega)
              have kc : ∀ m, Calls Try.prog 85 #[.slice ai' ni' ci', .slice ai ni ci] (wr.drewN m) fun e w' => e = .returned (.int .i64 (cmpL (gr p j) (gr p (j + 1)))) ∧ Q (wr.drewN m) w' := fun m =>
                cmpLists_any ai' ai ni' ci' ni ci (gr p j) (gr p (j + 1)) (wr.drewN m) (RdI.ext hrow2 ((Ext.refl _).drewN _)) (RdI.ext hrow ((Ext.refl _).drewN _))
              obtain ⟨v, hv⟩ : ∃ v, cmpL (gr p j) (gr p (j + 1)) = v := ⟨_, rfl⟩
              have Hv := Lib.hid hv
              rw [hv] at kc
              clear hv
              rcases pbc (PermOk (gr p (j + 1))) with ⟨hb, Hb⟩ | ⟨hb, Hb⟩
              · have kb : ∀ m, Calls Try.prog 62 #[.slice ai ni ci] (wr.drewN m) fun e w' => e = .returned (.bool true) ∧ Q (wr.drewN m) w' := fun m => by
                  have := l04Ok_any ai ni ci (gr p (j + 1)) (wr.drewN m) (RdI.ext hrow ((Ext.refl _).drewN _))
                  rwa [hb] at this
                clear hrow hrow2 hxw
                by_cases hl : (ni : Int) = z
                · have hne : ((ni : Int) != z) = false := by simp [hl]
                  have Hll := Lib.hid hl
                  clear hl
                  by_cases hle : 0 ≤ v
                  · have hg : decide (0 ≤ v) = true := decide_eq_true hle
                    go_wp2_with fail
                    go_quiet ((first | (go_at_call 62; exact quiet_q (kb _)) | (go_at_call 85; exact quiet_q (kc _))))
                    clear hw1
                    go_wp2
                    go_ret
                    exact Bad.out (.inr ⟨by omega, by rw [Nat.add_sub_cancel, Hv.out]; omega⟩) _
                  · have hg : decide (0 ≤ v) = false := decide_eq_false hle
                    go_wp2_with fail
                    go_quiet ((first | (go_at_call 62; exact quiet_q (kb _)) | (go_at_call 85; exact quiet_q (kc _))))
                    clear hw1
                    go_wp2
                    go_roundg (n - (j + 2))
                    case measure => go_light; omega
                    case rel => go_light; exact ⟨j + 2, by omega, rfl, by go_num, hQ.drewN _, Good.out ⟨by rw [← HM.out]; exact Hll.out, Hb.out⟩ (fun _ => by rw [Nat.add_sub_cancel, Hv.out]; omega)⟩
                · have hne : ((ni : Int) != z) = true := by simp [hl]
                  have Hll := Lib.hid hl
                  clear hl
                  go_wp2_with fail
                  go_quiet ((first | (go_at_call 62; exact quiet_q (kb _)) | (go_at_call 85; exact quiet_q (kc _))))
                  clear hw1
                  go_wp2
                  go_ret
                  exact Bad.out (.inl (fun h => Hll.out (by rw [HM.out]; exact h.1))) _
              · have kb : ∀ m, Calls Try.prog 62 #[.slice ai ni ci] (wr.drewN m) fun e w' => e = .returned (.bool false) ∧ Q (wr.drewN m) w' := fun m => by
                  have := l04Ok_any ai ni ci (gr p (j + 1)) (wr.drewN m) (RdI.ext hrow ((Ext.refl _).drewN _))
                  rwa [hb] at this
                clear hrow hrow2 hxw
                go_wp2_with fail
                go_quiet ((first | (go_at_call 62; exact quiet_q (kb _)) | (go_at_call 85; exact quiet_q (kc _))))
                clear hw1
                go_wp2
                go_ret
                exact Bad.out (.inl (fun h => Hb.out h.2)) _
          · have hzk : ¬ (k : Int) < (n : Int) := by omega
            obtain rfl : n = k := by omega
            obtain ⟨z', rfl⟩ := Int.eq_ofNat_of_zero_le (show 0 ≤ z by omega)
            have hall : Hid (AllPerm (z' : Int) p) := Lib.hid (fun g hg => by
              obtain ⟨j, hj, rfl⟩ := mem_gr hg
              exact HP.out.1 j (by have := Hl.out; omega))
            have hst : Hid (Strict p) := Lib.hid (fun j h0 hj => HP.out.2 j h0 (by have := Hl.out; omega))
            have kg : ∀ wz, Ext wr wz → Calls Try.prog 71 #[.int .i64 z', .slice a n c] wz fun e w' => ∃ a' m' c', e = .returned (.tuple #[.slice a' m' c', .bool (pb (Closed z' p))]) ∧ Ext wz w' ∧ ∃ L, (∃ rs, OwnR w' wz.heap.size a' m' c' L rs) ∧ Hid (Closed z' p → L = grd z' p p.length) := fun wz hwz => l05Gens_any z' _ _ _ p _ ((hx.ext hQ.ext).ext hwz) hall.out.perms hst.out (by omega) (by omega) hn1 hn2
            go_wp2_with fail
            go_region_held3 (fun w' => w'.cell? ⟨b0, 0, none⟩ = some (.int .i64 z') ∧ w'.cell? ⟨b0, 1, none⟩ = some (.slice a n c)) (first | exact ⟨p0, p1⟩ | exact ⟨Ext.cell ((Ext.refl _).drew) p0, Ext.cell ((Ext.refl _).drew) p1⟩ | exact ⟨Ext.cell (Ext.trans ((Ext.refl _).drew) hE5') p0, Ext.cell (Ext.trans ((Ext.refl _).drew) hE5') p1⟩) ((go_at_call 71; refine (kg _ ((Ext.refl _).drew)).mono ?_; rintro e w5 ⟨a5, m5, c5, rfl, hE5', _⟩))
            have hEn := hQ.ext.trans (Ext.trans ((Ext.refl _).drew) hE5')
            go_wp2
            go_ret
            refine ⟨ret_bool ?_, hEn⟩
            exact pb_congr ⟨fun h => ⟨Hz.out, ⟨by rw [← Hl.out]; exact hn1, by rw [← Hl.out]; exact hn2⟩, hall.out, hst.out, h⟩, fun h => h.2.2.2.2⟩
  · have Hz := Lib.hid hz
    clear hz
    go_wp2_with fail
    refine (l00In_any _ _ _ false (decide_eq_false Hz.out) _).mono ?_
    rintro e w2 ⟨rfl, rfl⟩
    go_wp2
    go_ret
    exact ⟨ret_npb (fun h => Hz.out h.1), Ext.refl _⟩
end Go.Proofs.Ytjlfngnmmmaefaa
