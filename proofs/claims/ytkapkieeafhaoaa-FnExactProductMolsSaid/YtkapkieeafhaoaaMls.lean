/- ValidMols of both. Conditions: none. -/
import Derived.Test.YtkapkieeafhaoaaMlsP
import Derived.Test.YtkapkieeafhaoaaOrth
import Derived.Test.YtkapkieeafhaoaaMol3
namespace Go.Proofs.Ytkapkieeafhaoaa
open Go.RowKit

set_option maxRecDepth 100000 in
set_option maxHeartbeats 3200000 in
theorem l07Ok_any (a : Option Addr) (n c : Nat) (x : List (List (List Int))) (w : World) (hx : RdM w a n c x) :
    Calls Try.prog 76 #[.slice a n c] w fun e w' => e = .returned (.bool (pb (MolsOk x))) ∧ Ext w w' := by
  have hb1 := hx.le
  have hb2 := hx.max
  have Hx := Lib.hid hx.len
  by_cases hn1 : n < 1
  · have hz : (n : Int) < 1 := by omega
    have hzd : decide ((n : Int) < 1) = true := decide_eq_true hz
    go_enter Try.func76, Try.ntmps76
    go_wp2
    go_ret
    exact ⟨ret_npb (fun h => by have := h.1.1; have := Hx.out; omega), Ext.refl _⟩
  · have hz : ¬ (n : Int) < 1 := by omega
    have hzd : decide ((n : Int) < 1) = false := decide_eq_false hz
    by_cases hn2 : 10 < n
    · have hz2 : (10 : Int) < (n : Int) := by omega
      have hzd2 : decide ((10 : Int) < (n : Int)) = true := decide_eq_true hz2
      go_enter Try.func76, Try.ntmps76
      go_wp2
      go_ret
      exact ⟨ret_npb (fun h => by have := h.1.2; have := Hx.out; omega), Ext.refl _⟩
    · have hz2 : ¬ (10 : Int) < (n : Int) := by omega
      have hzd2 : decide ((10 : Int) < (n : Int)) = false := decide_eq_false hz2
      obtain ⟨b, o, a0, m0, c0, ha0, hc0, hr0⟩ := RdM.gm hx (k := 0) (by omega)
      rw [Nat.add_zero] at hc0
      have Hm0 := Lib.hid hr0.len
      clear hr0
      go_enter Try.func76, Try.ntmps76
      go_wp2
      go_loopg [3] n (fun g i wr => ∃ k : Nat, k ≤ n ∧ g = n - k ∧ i = .int .i64 k ∧ Ext w wr ∧ Hid (MolsTo x k))
      case atStart => exact ⟨0, Nat.zero_le _, rfl, rfl, Ext.refl _, fun i h => absurd h (Nat.not_lt_zero _)⟩
      case round =>
        obtain ⟨k, hk, rfl, rfl, hE, HP⟩ := hrel
        by_cases hlt : k < n
        · have hzk : (k : Int) < (n : Int) := by omega
          have hzn : (0 : Int) < (n : Int) := by omega
          have hzn1 : 0 < n := by omega
          have hzn2 : ¬ n = 0 := by omega
          have hzn3 : (n : Int) ≠ 0 := by omega
          obtain ⟨b', o', ak, mk, ck, hak, hck, hrk⟩ := RdM.gm hx hlt
          have hh := ha0.symm.trans hak
          cases hh
          subst ha0
          have Hmk := Lib.hid hrk.len
          have d0 := hE.cell hc0
          have dk := hE.cell hck
          have hrw := hrk.ext hE
          rcases pbc (SqOk (gm x k)) with ⟨hb, Hb⟩ | ⟨hb, Hb⟩
          · have kb : ∀ wz, Ext wr wz → Calls Try.prog 51 #[.slice ak mk ck] wz fun e w' => e = .returned (.bool true) ∧ Ext wz w' := fun wz h => by
              have := l06Ok_any ak mk ck (gm x k) wz (hrw.ext h)
              rwa [hb] at this
            by_cases hml : mk = m0
            · have hne : ((mk : Int) != (m0 : Int)) = false := by simp [hml]
              have Hml := Lib.hid hml
              clear hml hrw
              go_wp2_with fail
              go_region_held3 (fun w' => w'.cell? ⟨b, o + k, none⟩ = some (.slice ak mk ck) ∧ w'.cell? ⟨b, o, none⟩ = some (.slice a0 m0 c0))
                (first | exact ⟨dk, d0⟩ | exact ⟨Ext.cell ((Ext.refl _).drew) dk, Ext.cell ((Ext.refl _).drew) d0⟩ | exact ⟨Ext.cell (Ext.trans ((Ext.refl _).drew) hE9) dk, Ext.cell (Ext.trans ((Ext.refl _).drew) hE9) d0⟩)
                ((go_at_call 51; refine (kb _ ((Ext.refl _).drew)).mono ?_; rintro e w9 ⟨rfl, hE9⟩))
              have hE2 := hE.trans (Ext.trans ((Ext.refl _).drew) hE9)
              clear d0 dk kb hE9 hE
              go_wp2
              go_loopg [4] k (fun g i wr => ∃ j : Nat, j ≤ k ∧ g = k - j ∧ i = .int .i64 j ∧ Ext w wr ∧ Hid (∀ i, i < j → OrthOk (gm x i) (gm x k)))
              case atStart => exact ⟨0, Nat.zero_le _, rfl, rfl, hE2, fun i h => absurd h (Nat.not_lt_zero _)⟩
              case round =>
                obtain ⟨j, hj, rfl, rfl, hE3, HJ⟩ := hrel
                clear hE2
                by_cases hjk : j < k
                · have hzj : (j : Int) < (k : Int) := by omega
                  have hzj2 : (j : Int) < (n : Int) := by omega
                  obtain ⟨b', o', aj, mj, cj, haj, hcj, hrj⟩ := RdM.gm hx (k := j) (by omega)
                  cases haj
                  have dk := hE3.cell hck
                  have dj := hE3.cell hcj
                  have hrjw := hrj.ext hE3
                  have hrkw := hrk.ext hE3
                  rcases pbc (OrthOk (gm x j) (gm x k)) with ⟨ho, Ho⟩ | ⟨ho, Ho⟩
                  · have kb : ∀ wz, Ext wr wz → Calls Try.prog 94 #[.slice aj mj cj, .slice ak mk ck] wz fun e w' => e = .returned (.bool true) ∧ Ext wz w' := fun wz h => by
                      have := l07Orthogonal_any aj mj cj (gm x j) ak mk ck (gm x k) wz (hrjw.ext h) (hrkw.ext h)
                      rwa [ho] at this
                    clear hrjw hrkw hrj
                    go_wp2_with fail
                    go_region_held3 (fun w' => w'.cell? ⟨b, o + j, none⟩ = some (.slice aj mj cj) ∧ w'.cell? ⟨b, o + k, none⟩ = some (.slice ak mk ck))
                      (first | exact ⟨dj, dk⟩ | exact ⟨Ext.cell ((Ext.refl _).drew) dj, Ext.cell ((Ext.refl _).drew) dk⟩ | exact ⟨Ext.cell (Ext.trans ((Ext.refl _).drew) hE9) dj, Ext.cell (Ext.trans ((Ext.refl _).drew) hE9) dk⟩)
                      ((go_at_call 94; refine (kb _ ((Ext.refl _).drew)).mono ?_; rintro e w9 ⟨rfl, hE9⟩))
                    have hE4 := hE3.trans (Ext.trans ((Ext.refl _).drew) hE9)
                    clear dj dk kb hE9 hE3
                    go_wp2
                    go_roundg (k - (j + 1))
                    case measure => go_light; omega
                    case rel => go_light; exact ⟨j + 1, by omega, rfl, by go_num, hE4, fun i hi => by
                      by_cases e : i = j
                      · subst e; exact Ho.out
                      · exact HJ.out i (by omega)⟩
                  · have kb : ∀ wz, Ext wr wz → Calls Try.prog 94 #[.slice aj mj cj, .slice ak mk ck] wz fun e w' => e = .returned (.bool false) ∧ Ext wz w' := fun wz h => by
                      have := l07Orthogonal_any aj mj cj (gm x j) ak mk ck (gm x k) wz (hrjw.ext h) (hrkw.ext h)
                      rwa [ho] at this
                    clear hrjw hrkw hrj
                    go_wp2_with fail
                    go_region_held3 (fun w' => w'.cell? ⟨b, o + j, none⟩ = some (.slice aj mj cj) ∧ w'.cell? ⟨b, o + k, none⟩ = some (.slice ak mk ck))
                      (first | exact ⟨dj, dk⟩ | exact ⟨Ext.cell ((Ext.refl _).drew) dj, Ext.cell ((Ext.refl _).drew) dk⟩ | exact ⟨Ext.cell (Ext.trans ((Ext.refl _).drew) hE9) dj, Ext.cell (Ext.trans ((Ext.refl _).drew) hE9) dk⟩)
                      ((go_at_call 94; refine (kb _ ((Ext.refl _).drew)).mono ?_; rintro e w9 ⟨rfl, hE9⟩))
                    have hE4 := hE3.trans (Ext.trans ((Ext.refl _).drew) hE9)
                    clear dj dk kb hE9 hE3
                    go_wp2
                    go_ret
                    exact ⟨ret_npb (fun h => Ho.out ((h.2 k (by have := Hx.out; omega)).2 j hjk)), hE4⟩
                · have hzj : ¬ (j : Int) < (k : Int) := by omega
                  obtain rfl : k = j := by omega
                  have hnew : Hid (MolsTo x (k + 1)) := Lib.hid (HP.out.succ Hb.out HJ.out)
                  go_wp2
                  go_roundg (n - (k + 1))
                  case measure => go_light; omega
                  case rel => go_light; exact ⟨k + 1, by omega, rfl, by go_num, hE3, hnew⟩
            · have hne : ((mk : Int) != (m0 : Int)) = true := by simp; omega
              have Hml := Lib.hid hml
              clear hml hrw
              go_wp2_with fail
              go_region_held3 (fun w' => w'.cell? ⟨b, o + k, none⟩ = some (.slice ak mk ck) ∧ w'.cell? ⟨b, o, none⟩ = some (.slice a0 m0 c0))
                (first | exact ⟨dk, d0⟩ | exact ⟨Ext.cell ((Ext.refl _).drew) dk, Ext.cell ((Ext.refl _).drew) d0⟩ | exact ⟨Ext.cell (Ext.trans ((Ext.refl _).drew) hE9) dk, Ext.cell (Ext.trans ((Ext.refl _).drew) hE9) d0⟩)
                ((go_at_call 51; refine (kb _ ((Ext.refl _).drew)).mono ?_; rintro e w9 ⟨rfl, hE9⟩))
              go_wp2
              go_ret
              exact ⟨ret_npb (fun h => Hml.out (by rw [Hmk.out, Hm0.out]; exact h.2.len (by have := Hx.out; omega))), hE.trans (Ext.trans ((Ext.refl _).drew) hE9)⟩
          · have kb : ∀ wz, Ext wr wz → Calls Try.prog 51 #[.slice ak mk ck] wz fun e w' => e = .returned (.bool false) ∧ Ext wz w' := fun wz h => by
              have := l06Ok_any ak mk ck (gm x k) wz (hrw.ext h)
              rwa [hb] at this
            clear hrw
            go_wp2_with fail
            refine wp_region_noPanic ?_
            refine wp_region_held_drew (S := fun w' => w'.cell? ⟨b, o + k, none⟩ = some (.slice ak mk ck)) (by kernel_rfl) (Ext.cell ((Ext.refl _).drew) dk) (fun hHeld => ?_)
            refine wpAnyH_take (i := 0) (v := .slice (some ⟨b, o, none⟩) n c) rfl (by kernel_rfl) (by kernel_rfl) (by kernel_rfl) (fun _ _ _ h => h) (Or.inl ⟨by rfl, fun w hSw => by (try dsimp only at hSw); go_simp⟩) (by assumption) ?_
            try simp only [Act.put, List.setIfInBounds_toArray, List.set_cons_zero, List.set_cons_succ, List.getElem_toArray, List.getElem_cons_zero, List.getElem_cons_succ]
            refine wpAnyH_take (i := 1) (v := .int .i64 k) rfl (by kernel_rfl) (by kernel_rfl) (by kernel_rfl) (fun _ _ _ h => h) (Or.inl ⟨by rfl, fun w hSw => by (try dsimp only at hSw); go_simp⟩) (by assumption) ?_
            try simp only [Act.put, List.setIfInBounds_toArray, List.set_cons_zero, List.set_cons_succ, List.getElem_toArray, List.getElem_cons_zero, List.getElem_cons_succ]
            refine wpAnyH_take (i := 2) (v := .pointer (some ⟨b, o + k, none⟩)) rfl (by kernel_rfl) (by kernel_rfl) (by kernel_rfl) (fun _ _ _ h => h) (Or.inl ⟨by rfl, fun w hSw => by (try dsimp only at hSw); go_simp⟩) (by assumption) ?_
            try simp only [Act.put, List.setIfInBounds_toArray, List.set_cons_zero, List.set_cons_succ, List.getElem_toArray, List.getElem_cons_zero, List.getElem_cons_succ]
            refine wpAnyH_take (i := 3) (v := .slice ak mk ck) rfl (by kernel_rfl) (by kernel_rfl) (by kernel_rfl) (fun _ _ _ h => h) (Or.inl ⟨by rfl, fun w hSw => by (try dsimp only at hSw); go_simp⟩) (by assumption) ?_
            try simp only [Act.put, List.setIfInBounds_toArray, List.set_cons_zero, List.set_cons_succ, List.getElem_toArray, List.getElem_cons_zero, List.getElem_cons_succ]
            refine wpAnyH_ready (rs := [4]) (by kernel_rfl) (by simp) ?_
            refine AllReadyH.cons (o := _) rfl (fun K hK => ?_) AllReadyH.nil
            go_simp
            refine (kb _ ((Ext.refl _).drew)).mono ?_
            rintro e w9 ⟨rfl, hE9⟩
            dsimp only
            refine hK.out _ _ (Ext.cell (Ext.trans ((Ext.refl _).drew) hE9) dk) (fun hHeld2 => ?_)
            clear hK K hHeld
            try simp only [Act.put, List.setIfInBounds_toArray, List.set_cons_zero, List.set_cons_succ, List.getElem_toArray, List.getElem_cons_zero, List.getElem_cons_succ]
            refine wpAnyH_take (i := 5) (v := .bool true) rfl (by kernel_rfl) (by kernel_rfl) (by kernel_rfl) (fun _ _ _ h => h) (Or.inl ⟨by rfl, fun w hSw => by (try dsimp only at hSw); go_simp⟩) (by assumption) ?_
            try simp only [Act.put, List.setIfInBounds_toArray, List.set_cons_zero, List.set_cons_succ, List.getElem_toArray, List.getElem_cons_zero, List.getElem_cons_succ]
            refine wpAnyH_take (i := 6) (v := .bool true) rfl (by kernel_rfl) (by kernel_rfl) (by kernel_rfl) (fun _ _ _ h => h) (Or.inl ⟨by rfl, fun w hSw => by (try dsimp only at hSw); go_simp⟩) (by assumption) ?_
            try simp only [Act.put, List.setIfInBounds_toArray, List.set_cons_zero, List.set_cons_succ, List.getElem_toArray, List.getElem_cons_zero, List.getElem_cons_succ]
            refine wpAnyH_take (i := 7) (v := undef) rfl (by kernel_rfl) (by kernel_rfl) (by kernel_rfl) (fun _ _ _ h => h) (Or.inr ⟨by rfl, rfl⟩) (by assumption) ?_
            try simp only [Act.put, List.setIfInBounds_toArray, List.set_cons_zero, List.set_cons_succ, List.getElem_toArray, List.getElem_cons_zero, List.getElem_cons_succ]
            refine wpAnyH_take (i := 8) (v := undef) rfl (by kernel_rfl) (by kernel_rfl) (by kernel_rfl) (fun _ _ _ h => h) (Or.inr ⟨by rfl, rfl⟩) (by assumption) ?_
            try simp only [Act.put, List.setIfInBounds_toArray, List.set_cons_zero, List.set_cons_succ, List.getElem_toArray, List.getElem_cons_zero, List.getElem_cons_succ]
            refine wpAnyH_take (i := 9) (v := undef) rfl (by kernel_rfl) (by kernel_rfl) (by kernel_rfl) (fun _ _ _ h => h) (Or.inr ⟨by rfl, rfl⟩) (by assumption) ?_
            try simp only [Act.put, List.setIfInBounds_toArray, List.set_cons_zero, List.set_cons_succ, List.getElem_toArray, List.getElem_cons_zero, List.getElem_cons_succ]
            refine wpAnyH_take (i := 10) (v := undef) rfl (by kernel_rfl) (by kernel_rfl) (by kernel_rfl) (fun _ _ _ h => h) (Or.inr ⟨by rfl, rfl⟩) (by assumption) ?_
            try simp only [Act.put, List.setIfInBounds_toArray, List.set_cons_zero, List.set_cons_succ, List.getElem_toArray, List.getElem_cons_zero, List.getElem_cons_succ]
            refine wpAnyH_take (i := 11) (v := undef) rfl (by kernel_rfl) (by kernel_rfl) (by kernel_rfl) (fun _ _ _ h => h) (Or.inr ⟨by rfl, rfl⟩) (by assumption) ?_
            try simp only [Act.put, List.setIfInBounds_toArray, List.set_cons_zero, List.set_cons_succ, List.getElem_toArray, List.getElem_cons_zero, List.getElem_cons_succ]
            refine wpAnyH_take (i := 12) (v := undef) rfl (by kernel_rfl) (by kernel_rfl) (by kernel_rfl) (fun _ _ _ h => h) (Or.inr ⟨by rfl, rfl⟩) (by assumption) ?_
            try simp only [Act.put, List.setIfInBounds_toArray, List.set_cons_zero, List.set_cons_succ, List.getElem_toArray, List.getElem_cons_zero, List.getElem_cons_succ]
            refine wpAnyH_take (i := 13) (v := undef) rfl (by kernel_rfl) (by kernel_rfl) (by kernel_rfl) (fun _ _ _ h => h) (Or.inr ⟨by rfl, rfl⟩) (by assumption) ?_
            try simp only [Act.put, List.setIfInBounds_toArray, List.set_cons_zero, List.set_cons_succ, List.getElem_toArray, List.getElem_cons_zero, List.getElem_cons_succ]
            refine wpAnyH_take (i := 14) (v := undef) rfl (by kernel_rfl) (by kernel_rfl) (by kernel_rfl) (fun _ _ _ h => h) (Or.inr ⟨by rfl, rfl⟩) (by assumption) ?_
            try simp only [Act.put, List.setIfInBounds_toArray, List.set_cons_zero, List.set_cons_succ, List.getElem_toArray, List.getElem_cons_zero, List.getElem_cons_succ]
            refine wpAnyH_take (i := 15) (v := undef) rfl (by kernel_rfl) (by kernel_rfl) (by kernel_rfl) (fun _ _ _ h => h) (Or.inr ⟨by rfl, rfl⟩) (by assumption) ?_
            try simp only [Act.put, List.setIfInBounds_toArray, List.set_cons_zero, List.set_cons_succ, List.getElem_toArray, List.getElem_cons_zero, List.getElem_cons_succ]
            refine wpAnyH_take (i := 16) (v := undef) rfl (by kernel_rfl) (by kernel_rfl) (by kernel_rfl) (fun _ _ _ h => h) (Or.inr ⟨by rfl, rfl⟩) (by assumption) ?_
            try simp only [Act.put, List.setIfInBounds_toArray, List.set_cons_zero, List.set_cons_succ, List.getElem_toArray, List.getElem_cons_zero, List.getElem_cons_succ]
            refine wpAnyH_take (i := 17) (v := .bool true) rfl (by kernel_rfl) (by kernel_rfl) (by kernel_rfl) (fun _ _ _ h => h) (Or.inl ⟨by rfl, fun w hSw => by (try dsimp only at hSw); go_simp⟩) (by assumption) ?_
            try simp only [Act.put, List.setIfInBounds_toArray, List.set_cons_zero, List.set_cons_succ, List.getElem_toArray, List.getElem_cons_zero, List.getElem_cons_succ]
            refine wpAnyH_done (by kernel_rfl) ?_ _
            refine NoPanic.normal ?_
            go_wp2
            go_ret
            exact ⟨ret_npb (fun h => Hb.out (h.2 k (by have := Hx.out; omega)).1), hE.trans (Ext.trans ((Ext.refl _).drew) hE9)⟩
        · have hzk : ¬ (k : Int) < (n : Int) := by omega
          obtain rfl : n = k := by omega
          go_wp2
          go_ret
          exact ⟨ret_pb ⟨by have := Hx.out; omega, by rw [← Hx.out]; exact HP.out⟩, hE⟩

set_option maxHeartbeats 400000 in
theorem sizeM_any (a : Option Addr) (n c : Nat) (w : World) : Calls Try.prog 79 #[.slice a n c] w fun e w' => e = .returned (.int .i64 n) ∧ w = w' := by
  go_enter Try.func79, Try.ntmps79
  go_wp2
  go_ret
  exact ⟨rfl, rfl⟩

set_option maxRecDepth 100000 in
set_option maxHeartbeats 3200000 in
theorem validMols_any (a : Option Addr) (n c : Nat) (x : List (List (List Int))) (w : World) (hx : RdM w a n c x) :
    Calls Try.prog 34 #[.slice a n c] w fun e w' => e = .returned (.bool (pb (MolsOk x))) ∧ Ext w w' := by
  have hb1 := hx.le
  have hb2 := hx.max
  have Hx := Lib.hid hx.len
  go_enter Try.func34, Try.ntmps34
  go_wp2
  go_loopg [9] n (fun g i wr => ∃ k : Nat, k ≤ n ∧ g = n - k ∧ i = .int .i64 k ∧ Ext w wr ∧ Hid (MolsTo x k))
  case atStart => exact ⟨0, Nat.zero_le _, rfl, rfl, Ext.refl _, fun i h => absurd h (Nat.not_lt_zero _)⟩
  case round =>
    obtain ⟨k, hk, rfl, rfl, hE, HP⟩ := hrel
    by_cases hlt : k < n
    · have hzk : (k : Int) < (n : Int) := by omega
      obtain ⟨b, o, ak, mk, ck, rfl, hck, hrk⟩ := RdM.gm hx hlt
      have dk := hE.cell hck
      go_wp2_with fail
      refine (validSquare_any _ _ _ (gm x k) _ (hrk.ext hE)).mono ?_
      rintro e w2 ⟨rfl, hE2⟩
      have hE3 := hE.trans hE2
      clear dk hE2 hE
      rcases pbc (SqOk (gm x k)) with ⟨hb, Hb⟩ | ⟨hb, Hb⟩
      · rw [hb]
        have hkc : k ≤ c := by omega
        go_wp2
        go_loopg [21] k (fun g i wr => ∃ j : Nat, j ≤ k ∧ g = k - j ∧ i = .int .i64 j ∧ Ext w wr ∧ Hid (∀ i, i < j → OrthOk (gm x i) (gm x k)))
        case atStart => exact ⟨0, Nat.zero_le _, rfl, rfl, hE3, fun i h => absurd h (Nat.not_lt_zero _)⟩
        case round =>
          obtain ⟨j, hj, rfl, rfl, hE4, HJ⟩ := hrel
          clear hE3
          by_cases hjk : j < k
          · have hzj : (j : Int) < (k : Int) := by omega
            obtain ⟨b', o', aj, mj, cj, haj, hcj, hrj⟩ := RdM.gm hx (k := j) (by omega)
            cases haj
            have dj := hE4.cell hcj
            go_wp2_with fail
            refine (orthogonal_any _ _ _ (gm x k) _ _ _ (gm x j) _ (hrk.ext hE4) (hrj.ext hE4) Hb (Lib.hid (HP.out j hjk).1)).mono ?_
            rintro e w5 ⟨rfl, hE5⟩
            have hE6 := hE4.trans hE5
            clear dj hE5 hE4 hrj
            rw [pb_congr orthOk_symm]
            rcases pbc (OrthOk (gm x j) (gm x k)) with ⟨ho, Ho⟩ | ⟨ho, Ho⟩
            · rw [ho]
              go_wp2
              go_roundg (k - (j + 1))
              case measure => go_light; omega
              case rel => go_light; exact ⟨j + 1, by omega, rfl, by go_num, hE6, fun i hi => by
                by_cases e : i = j
                · subst e; exact Ho.out
                · exact HJ.out i (by omega)⟩
            · rw [ho]
              go_wp2
              go_ret
              exact ⟨ret_npb (fun h => Ho.out ((h.2 k (by have := Hx.out; omega)).2 j hjk)), hE6⟩
          · have hzj : ¬ (j : Int) < (k : Int) := by omega
            obtain rfl : k = j := by omega
            have hnew : Hid (MolsTo x (k + 1)) := Lib.hid (HP.out.succ Hb.out HJ.out)
            go_wp2
            go_roundg (n - (k + 1))
            case measure => go_light; omega
            case rel => go_light; exact ⟨k + 1, by omega, rfl, by go_num, hE4, hnew⟩
      · rw [hb]
        go_wp2
        go_ret
        exact ⟨ret_npb (fun h => Hb.out (h.2 k (by have := Hx.out; omega)).1), hE3⟩
    · have hzk : ¬ (k : Int) < (n : Int) := by omega
      obtain rfl : n = k := by omega
      obtain ⟨v, hv⟩ : ∃ v, decide (1 ≤ (n : Int) ∧ (n : Int) ≤ 10) = v := ⟨_, rfl⟩
      have Hv := Lib.hid hv
      clear hv
      go_wp2_with fail
      refine (sizeM_any _ _ _ _).mono ?_
      rintro e w2 ⟨rfl, rfl⟩
      go_wp2_with fail
      refine (within_any _ _ _ v Hv.out _).mono ?_
      rintro e w2 ⟨rfl, rfl⟩
      go_wp2
      go_ret
      refine ⟨ret_bool ?_, hE⟩
      cases v
      · exact (pb_false (fun h => by have := Hv.out; simp at this; have := h.1; have := Hx.out; omega)).symm
      · exact (pb_true ⟨by have := Hv.out; simp at this; have := Hx.out; omega, by rw [← Hx.out]; exact HP.out⟩).symm

set_option maxHeartbeats 400000 in
theorem specMls (a : Option Addr) (n c : Nat) (x : List (List (List Int))) (w : World) (hx : RdM w a n c x) (_ : x.length + s3 x ≤ 1048576) :
    Calls Try.prog 32 #[.slice a n c] w fun e w' => e = .returned (.bool (pb (MolsOk x))) ∧ Ext w w' := by
  go_enter Try.func32, Try.ntmps32
  go_wp2_with fail
  refine (l07Ok_any _ _ _ x _ hx).mono ?_
  rintro e w2 ⟨rfl, hE⟩
  go_wp2
  go_ret
  exact ⟨rfl, hE⟩
theorem implMls (a : Option Addr) (n c : Nat) (x : List (List (List Int))) (w : World) (hx : RdM w a n c x) (_ : x.length + s3 x ≤ 1048576) :
    Calls Try.prog 34 #[.slice a n c] w fun e w' => e = .returned (.bool (pb (MolsOk x))) ∧ Ext w w' := validMols_any a n c x w hx
end Go.Proofs.Ytkapkieeafhaoaa
