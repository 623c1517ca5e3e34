/- Whether all lists from one on have symbols of their own, by both. Conditions: none. -/
import Derived.Test.YtgggbicmmijlnaaAug
import Derived.Test.YtgggbicmmijlnaaUnitP
namespace Go.Proofs.Ytgggbicmmijlnaa
open Go.RowKit

theorem info_int_ : (Try.prog.info? 3).map (fun i => (i.zero, i.size, i.bytes)) = some (some (.int .i64 0), 1, 8) := by kernel_rfl
theorem info_bool2 : (Try.prog.info? 4).map (fun i => (i.zero, i.size, i.bytes)) = some (some (.bool false), 1, 1) := by kernel_rfl
theorem rep_set {α : Type} {x y : α} {n i : Nat} (h : i < n) : (List.replicate i x ++ List.replicate (n - i) y).set i x = List.replicate (i + 1) x ++ List.replicate (n - (i + 1)) y := by
  rw [List.set_append_right _ _ (by simp), List.length_replicate, Nat.sub_self, show n - i = (n - (i + 1)) + 1 by omega, List.replicate_succ, List.set_cons_zero, List.replicate_succ', List.append_assoc]
  rfl
theorem Mtc.low {L : List (List Int)} {u : List Bool} {n f k : Nat} {o : List Int} (h : Mtc L u n f k o) : ∀ s, s < n → gi o s < n := fun s hs => by
  rcases h.vld s hs (sn_rep hs) with e | ⟨j, e, hj, _⟩ <;> omega

set_option maxRecDepth 100000 in
set_option maxHeartbeats 1600000 in
theorem matchable_any (a : Option Addr) (n c : Nat) (L : List (List Int)) (f : Nat) (au : Option Addr) (cu : Nat) (u : List Bool) (w : World) (hx : RdR w a n c L) (hu : RdB w au n cu u) (hB : Bel L n) (hn : n ≤ 1000) (hf : f ≤ n) :
    Calls Try.prog 72 #[.slice a n c, .int .i64 f, .slice au n cu] w fun e w' => e = .returned (.bool (pb (Sdr L n f u))) ∧ Ext w w' := by
  have hmk := run_make_row' (P := Try.prog) 100 3 (.int .i64 0) 8 Try.underlying100 info_int_ rfl .i64 .i64 n (by omega) (by omega)
  have hmb := run_make_row' (P := Try.prog) 83 4 (.bool false) 1 Try.underlying83 info_bool2 rfl .i64 .i64 n (by omega) (by omega)
  have H0 := own_made w 3 (Value.int .i64) 0 n (by omega)
  have hE0 : Ext w (w.alloc (.cells (madeCells #[Value.int .i64 0] n) 3)) := (Ext.refl _).alloc _
  have hb1 := hx.le
  have hb2 := hx.max
  have hb3 := hu.le
  have hb4 := hu.max
  go_enter Try.func72, Try.ntmps72
  go_wp2
  clear hmk
  go_loopg [15] n (fun gh ix wr => ∃ i : Nat, i ≤ n ∧ gh = n - i ∧ ix = .int .i64 i ∧ OwnN wr w.heap.size (some ⟨w.heap.size, 0, none⟩) n n (List.replicate i (-1) ++ List.replicate (n - i) 0) ∧ Ext w wr)
  case atStart => exact ⟨0, Nat.zero_le _, rfl, rfl, by simpa using H0, hE0⟩
  case round =>
    clear H0 hE0
    obtain ⟨i, hi, rfl, rfl, hO, hE⟩ := hrel
    by_cases hlt : i < n
    · have hzi : (i : Int) < (n : Int) := by omega
      obtain ⟨hco, hfo⟩ := hO.giN hlt
      have hO2 := hO.set (k := i) rfl (-1)
      rw [rep_set hlt] at hO2
      have hE2 := hE.setCell (p := ⟨w.heap.size, i, none⟩) (Nat.le_refl _) (.int .i64 (-1))
      clear hO hE
      go_wp2
      go_roundg (n - (i + 1))
      case measure => go_light; omega
      case rel => go_light; exact ⟨i + 1, by omega, rfl, by go_num, hO2, hE2⟩
    · have hzi : ¬ (i : Int) < (n : Int) := by omega
      obtain rfl : n = i := by omega
      have hO2 : OwnN wr w.heap.size (some ⟨w.heap.size, 0, none⟩) n n (List.replicate n (-1)) := by simpa using hO
      clear hO
      go_wp2
      go_loopg [9] (1 * (n - f)) (fun gh ix wr => ∃ (k : Nat) (o : List Int), f ≤ k ∧ k ≤ n ∧ gh = 1 * (n - k) ∧ ix = .int .i64 k ∧ OwnN wr w.heap.size (some ⟨w.heap.size, 0, none⟩) n n o ∧ Hid (Mtc L u n f k o) ∧ Ext w wr)
      case atStart => exact ⟨f, _, Nat.le_refl _, hf, rfl, rfl, hO2, Lib.hid (Mtc.start n f), hE⟩
      case round =>
        clear hO2 hE
        obtain ⟨k, o, hfk, hk, rfl, rfl, hO, HM, hE⟩ := hrel
        by_cases hlk : k < n
        · have hzk : (k : Int) < (n : Int) := by omega
          have hlo := (hO.lt (g := w.heap.size) rfl).2
          have H1 := (own_made wr 4 Value.bool false n (by omega)).base (B' := w.heap.size) hE.size
          have hO1 := hO.ext ((Ext.refl _).alloc (.cells (madeCells #[Value.bool false] n) 4))
          have hE1 := hE.alloc (.cells (madeCells #[Value.bool false] n) 4)
          clear hO hE
          go_wp2_with fail
          refine (augment_any w a n c L au cu u hx hu hB hn w.heap.size n wr.heap.size n (Nat.ne_of_lt hlo) _ (List.replicate n false) o k _ (Nat.le_refl _) hlk HM.out.low hO1 H1 hE1).mono ?_
          rintro e w2 ⟨b, o2, t2, rfl, HA, hO2, hT2, hE2⟩
          clear hO1 H1 hE1 hT2
          cases b
          · have hno := Lib.hid (few_no (HM.out.few hB hfk hlk HA.out))
            go_wp2
            go_ret
            exact ⟨ret_npb hno.out, hE2⟩
          · have HM2 := Lib.hid (HM.out.step hB hfk hlk HA.out)
            go_wp2
            go_roundg (1 * (n - (k + 1)))
            case measure => go_light; omega
            case rel => go_light; exact ⟨k + 1, o2, by omega, by omega, rfl, by go_num, hO2, HM2, hE2⟩
        · have hzk : ¬ (k : Int) < (n : Int) := by omega
          obtain rfl : n = k := by omega
          have hyes := Lib.hid HM.out.done
          go_wp2
          go_ret
          exact ⟨ret_pb hyes.out, hE⟩

set_option maxRecDepth 100000 in
set_option maxHeartbeats 1600000 in
theorem l09Matches_any (a : Option Addr) (n c : Nat) (L : List (List Int)) (f : Nat) (au : Option Addr) (cu : Nat) (u : List Bool) (w : World) (hx : RdR w a n c L) (hul : u.length = n) (hu : RdB w au n cu (u.map (fun b => !b))) (hB : Bel L n) (hn : n ≤ 1000) (hf : f ≤ n) :
    Calls Try.prog 68 #[.slice a n c, .int .i64 f, .slice au n cu] w fun e w' => e = .returned (.bool (pb (Sdr L n f u))) ∧ Ext w w' := by
  have hmk := run_make_row' (P := Try.prog) 100 3 (.int .i64 0) 8 Try.underlying100 info_int_ rfl .i64 .i64 n (by omega) (by omega)
  have hmb := run_make_row' (P := Try.prog) 83 4 (.bool false) 1 Try.underlying83 info_bool2 rfl .i64 .i64 n (by omega) (by omega)
  have H0 := own_made w 3 (Value.int .i64) 0 n (by omega)
  have hE0 : Ext w (w.alloc (.cells (madeCells #[Value.int .i64 0] n) 3)) := (Ext.refl _).alloc _
  have hb1 := hx.le
  have hb2 := hx.max
  have hb3 := hu.le
  have hb4 := hu.max
  go_enter Try.func68, Try.ntmps68
  go_wp2
  clear hmk
  go_loopg [9] n (fun gh ix wr => ∃ i : Nat, i ≤ n ∧ gh = n - i ∧ ix = .int .i64 i ∧ OwnN wr w.heap.size (some ⟨w.heap.size, 0, none⟩) n n (List.replicate i (-1) ++ List.replicate (n - i) 0) ∧ Ext w wr)
  case atStart => exact ⟨0, Nat.zero_le _, rfl, rfl, by simpa using H0, hE0⟩
  case round =>
    clear H0 hE0
    obtain ⟨i, hi, rfl, rfl, hO, hE⟩ := hrel
    by_cases hlt : i < n
    · have hzi : (i : Int) < (n : Int) := by omega
      obtain ⟨hco, hfo⟩ := hO.giN hlt
      have hO2 := hO.set (k := i) rfl (-1)
      rw [rep_set hlt] at hO2
      have hE2 := hE.setCell (p := ⟨w.heap.size, i, none⟩) (Nat.le_refl _) (.int .i64 (-1))
      clear hO hE
      go_wp2
      go_roundg (n - (i + 1))
      case measure => go_light; omega
      case rel => go_light; exact ⟨i + 1, by omega, rfl, by go_num, hO2, hE2⟩
    · have hzi : ¬ (i : Int) < (n : Int) := by omega
      obtain rfl : n = i := by omega
      have hO2 : OwnN wr w.heap.size (some ⟨w.heap.size, 0, none⟩) n n (List.replicate n (-1)) := by simpa using hO
      clear hO
      go_wp2
      go_loopg [10] (1 * (n - f)) (fun gh ix wr => ∃ (k : Nat) (o : List Int), f ≤ k ∧ k ≤ n ∧ gh = 1 * (n - k) ∧ ix = .int .i64 k ∧ OwnN wr w.heap.size (some ⟨w.heap.size, 0, none⟩) n n o ∧ Hid (Mtc L u n f k o) ∧ Ext w wr)
      case atStart => exact ⟨f, _, Nat.le_refl _, hf, rfl, rfl, hO2, Lib.hid (Mtc.start n f), hE⟩
      case round =>
        clear hO2 hE
        obtain ⟨k, o, hfk, hk, rfl, rfl, hO, HM, hE⟩ := hrel
        by_cases hlk : k < n
        · have hzk : (k : Int) < (n : Int) := by omega
          have hlo := (hO.lt (g := w.heap.size) rfl).2
          have H1 := (own_made wr 4 Value.bool false n (by omega)).base (B' := w.heap.size) hE.size
          have hO1 := hO.ext ((Ext.refl _).alloc (.cells (madeCells #[Value.bool false] n) 4))
          have hE1 := hE.alloc (.cells (madeCells #[Value.bool false] n) 4)
          clear hO hE
          go_wp2_with fail
          refine (l09Augment_any w a n c L au cu u hx hul hu hB hn w.heap.size n wr.heap.size n (Nat.ne_of_lt hlo) _ (List.replicate n false) o k _ (Nat.le_refl _) hlk HM.out.low hO1 H1 hE1).mono ?_
          rintro e w2 ⟨b, o2, t2, rfl, HA, hO2, hT2, hE2⟩
          clear hO1 H1 hE1 hT2
          cases b
          · have hno := Lib.hid (few_no (HM.out.few hB hfk hlk HA.out))
            go_wp2
            go_ret
            exact ⟨ret_npb hno.out, hE2⟩
          · have HM2 := Lib.hid (HM.out.step hB hfk hlk HA.out)
            go_wp2
            go_roundg (1 * (n - (k + 1)))
            case measure => go_light; omega
            case rel => go_light; exact ⟨k + 1, o2, by omega, by omega, rfl, by go_num, hO2, HM2, hE2⟩
        · have hzk : ¬ (k : Int) < (n : Int) := by omega
          obtain rfl : n = k := by omega
          have hyes := Lib.hid HM.out.done
          go_wp2
          go_ret
          exact ⟨ret_pb hyes.out, hE⟩
end Go.Proofs.Ytgggbicmmijlnaa
