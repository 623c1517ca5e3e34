/- Cycles of permutations, of both. Conditions: none. -/
import Derived.Test.YtjlfngnmmmaefaaCycP
import Derived.Test.YtjlfngnmmmaefaaFill
import Derived.Test.YtjlfngnmmmaefaaApp
namespace Go.Proofs.Ytjlfngnmmmaefaa
open Go.RowKit

theorem info_bool_ : (Try.prog.info? 4).map (fun i => (i.zero, i.size, i.bytes)) = some (some (.bool false), 1, 1) := by kernel_rfl

theorem run_step {p : List Int} {s : List Bool} {y v : Nat} (hy : y < s.length) (h : sn s y = false) (hv : gi p y = v) : run p (uns s) s y = ((y : Int) :: (run p (uns (s.set y true)) (s.set y true) v).1, (run p (uns (s.set y true)) (s.set y true) v).2) := by
  rw [uns_set hy h, run, h, hv]
  rfl
theorem run_stop {p : List Int} {s : List Bool} {y : Nat} (h : sn s y = true) (k : Nat) : run p k s y = ([], s) := by
  cases k with
  | zero => rfl
  | succ k => rw [run, h]; rfl

set_option maxRecDepth 100000 in
set_option maxHeartbeats 3200000 in
theorem l04Cycles_any (a : Option Addr) (n c : Nat) (p : List Int) (w : World) (hx : RdI w a n c p) (hn : n ≤ 1000) (hp : IsPerm p) :
    Calls Try.prog 75 #[.slice a n c] w (RetR w (cyc p)) := by
  have hmk := run_make_row' (P := Try.prog) 77 4 (.bool false) 1 Try.underlying77 info_bool_ rfl .i64 .i64 n (by omega) (by omega)
  have Hl := Lib.hid hx.len
  have hb1 := hx.le
  have hb2 := hx.max
  have Hp := Lib.hid hp
  have Hb : Hid (Below_ p n) := Lib.hid (by have := hp.below; rwa [← hx.len] at this)
  clear hp
  have R0 := OwnR.empty w
  have H0 := (own_made (w.alloc (.cells #[] 26)) 4 Value.bool false n (by omega)).base (B' := w.heap.size) (by simp)
  have R1 := R0.ext ((Ext.refl _).alloc (.cells (madeCells #[Value.bool false] n) 4))
  go_enter Try.func75, Try.ntmps75
  go_wp2
  clear hmk
  have hsz1 : (w.alloc (.cells #[] 26)).heap.size = w.heap.size + 1 := by simp
  go_loopg [3, 5] n (fun gh s i wr => ∃ (k m : Nat) (a3 : Option Addr) (c3 : Nat) (rs : List Row), k ≤ n ∧ gh = n - k ∧ i = .int .i64 k ∧ s = .slice a3 m c3 ∧ m ≤ k ∧ OwnR wr w.heap.size a3 m c3 (cyTo p n k).1 rs ∧
    OwnB wr w.heap.size (some ⟨w.heap.size + 1, 0, none⟩) n n (cyTo p n k).2 ∧ Hid (∀ g, OwnR.fp a3 rs g → g ≠ w.heap.size + 1) ∧ Ext w wr)
  case atStart => exact ⟨0, 0, _, 0, [], Nat.zero_le _, rfl, rfl, rfl, Nat.le_refl _, R1, by rw [hsz1] at H0; exact H0, Lib.hid (fun g h e => by have := (R0.lt h).2; rw [hsz1] at this; omega), ((Ext.refl _).alloc _).alloc _⟩
  case round =>
    clear R0 R1 H0
    obtain ⟨k, m, a3, c3, rs, hk, rfl, rfl, rfl, hm, hO, hS, HA, hE⟩ := hrel
    by_cases hlt : k < n
    · have hz : (k : Int) < (n : Int) := by omega
      obtain ⟨q1, q2, q3, q4⟩ := cyTo_all Hb.out Hl.out.symm k (by omega)
      obtain ⟨gS, b0, hh, hB, hc, _, hb⟩ := hS.at_ (k := k) hlt
      cases hh
      have hsn := sn_of hb.out
      cases b0
      · have H1 := Own.empty 2 (Value.int .i64) wr
        have hO1 := hO.ext ((Ext.refl _).alloc (.cells #[] 2))
        have hS1 := hS.ext ((Ext.refl _).alloc (.cells #[] 2))
        have hE1 := hE.alloc (.cells #[] 2)
        have hA1 : ∀ g, blk (some (⟨wr.heap.size, 0, none⟩ : Addr)) = some g → ¬ OwnR.fp a3 rs g ∧ g ≠ w.heap.size + 1 := by
          intro g hg
          have e := blk_eq hg
          refine ⟨fun hf => by have := (hO.lt hf).2; omega, ?_⟩
          have := (hS.lt (g := w.heap.size + 1) rfl).2
          omega
        have H2 := H1.base hE.size
        have Q1 := Lib.hid q1
        have HSN := Lib.hid hsn
        clear H1 hO hS hE q1 q2 q3 q4 hb hsn
        go_wp2
        go_loopg [6, 7] (1 * uns (cyTo p n k).2) (fun gh t yv wi => ∃ (y l : Nat) (a6 : Option Addr) (d6 : Nat) (acc : List Int) (s : List Bool), gh = 1 * uns s ∧ t = .slice a6 l d6 ∧ yv = .int .i64 y ∧ y < n ∧ l + uns s ≤ n ∧ s.length = n ∧
          OwnR wi w.heap.size a3 m c3 (cyTo p n k).1 rs ∧ OwnB wi w.heap.size (some ⟨w.heap.size + 1, 0, none⟩) n n s ∧ OwnI wi w.heap.size a6 l d6 acc ∧ Hid (∀ g, blk a6 = some g → ¬ OwnR.fp a3 rs g ∧ g ≠ w.heap.size + 1) ∧
          Hid (acc ++ (run p (uns s) s y).1 = (run p (uns (cyTo p n k).2) (cyTo p n k).2 k).1 ∧ (run p (uns s) s y).2 = (run p (uns (cyTo p n k).2) (cyTo p n k).2 k).2) ∧ Ext w wi)
        case atStart => exact ⟨k, 0, _, 0, [], (cyTo p n k).2, rfl, rfl, rfl, hlt, by have := (cyTo_all Hb.out Hl.out.symm k hk).2.2.1; omega, Q1.out, hO1, hS1, H2, hA1, Lib.hid ⟨rfl, rfl⟩, hE1⟩
        case round =>
          clear hO1 hS1 H2 hA1 hE1
          obtain ⟨y, l, a6, d6, acc, s, rfl, rfl, rfl, hy, hl, hs, hO, hS, hI, HA1, HR, hE⟩ := hrel
          have Hs := Lib.hid hs
          obtain ⟨gS', b0, hh, _, hc, hf, hb⟩ := hS.at_ (k := y) hy
          cases hh
          have hsn := sn_of hb.out
          have HSY := Lib.hid hsn
          obtain ⟨v, hv, hvn⟩ := Hb.out y (by rw [← Hl.out]; exact hy)
          obtain ⟨b, o, rfl, hcp⟩ := hx.gi hy
          rw [hv] at hcp
          have hcp2 := hE.cell hcp
          have hz2 : (y : Int) < (n : Int) := by omega
          have HV := Lib.hid hv
          clear hs hsn hv hb
          cases b0
          · have hu := uns_set (s := s) (y := y) (by rw [Hs.out]; exact hy) HSY.out
            have HU := Lib.hid hu
            clear hu
            have hS2 := hS.set (k := y) rfl true
            have hO2 := hO.setOther (p := ⟨w.heap.size + 1, y, none⟩) (fun h => HA.out _ h rfl) (.bool true)
            have hI2 := hI.setOther (p := ⟨w.heap.size + 1, y, none⟩) (fun h => (HA1.out _ h).2 rfl) (.bool true)
            have hE2 := hE.setCell (p := ⟨w.heap.size + 1, y, none⟩) (Nat.le_succ _) (.bool true)
            have hsz := hE2.size
            have hcp3 := hE2.cell hcp
            clear hO hS hI hE
            go_wp2_with (at_builtin; refine app_I rfl _ _ rfl hI2 hsz (by first | rfl | simp) (by omega) rfl rfl ?_; intro a7 d7 w7 hrow honly hmv; have hcp4 := (hE2.app hI2 honly (Nat.le_refl _)).cell hcp)
            have hO3 := hO2.only honly (fun g h1 h2 => (HA1.out g h2).1 h1)
            have hS3 := hS2.only honly (fun g h1 h2 => (HA1.out g h2).2 (blk_eq h1).symm)
            have A3 : Hid (∀ g, blk a7 = some g → ¬ OwnR.fp a3 rs g ∧ g ≠ w.heap.size + 1) := Lib.hid (fun g hg => by
              rcases hmv with h1 | ⟨g', h1, h2⟩
              · exact HA1.out g (by rw [← h1]; exact hg)
              · rw [hg] at h1
                cases h1
                have h3 := (hS2.lt (g := w.heap.size + 1) rfl).2
                exact ⟨fun hf => by have := (hO2.lt hf).2; omega, by omega⟩)
            have hE3 := hE2.app hI2 honly (Nat.le_refl _)
            clear hO2 hS2 hI2 hE2 honly hmv hsz hcp3 hcp2
            go_wp2
            go_roundg (1 * uns (s.set y true))
            case measure => go_light; have := HU.out; omega
            case rel =>
              go_light
              refine ⟨v, l + 1, a7, d7, acc ++ [(y : Int)], s.set y true, rfl, rfl, rfl, hvn, by have := HU.out; omega, by rw [List.length_set]; exact Hs.out, hO3, hS3, hrow, A3, Lib.hid ?_, hE3⟩
              have h1 := HR.out
              rw [run_step (by rw [Hs.out]; exact hy) HSY.out HV.out] at h1
              have e : ((v : Int)).toNat = v := Int.toNat_natCast v
              simp only [e, List.append_assoc, List.singleton_append] at h1 ⊢
              exact h1
          · have hR2 := HR.out
            rw [run_stop HSY.out, List.append_nil] at hR2
            dsimp only at hR2
            have hsz := hE.size
            have hap : ∀ g, blk a6 = some g → ¬ OwnR.fp a3 rs g := fun g h => (HA1.out g h).1
            have e1 : (cyTo p n (k + 1)) = ((cyTo p n k).1 ++ [acc], s) := by rw [cyTo, HSN.out, hR2.1, hR2.2]; rfl
            have E1 := Lib.hid e1
            have L6 : Hid (w.heap.size + 1 < wr.heap.size) := Lib.hid (hS.lt (g := w.heap.size + 1) rfl).2
            clear hR2 e1 hcp2 
            go_wp2_with (at_builtin; refine app_S rfl _ _ rfl hO hsz hI hap rfl (by omega) rfl rfl ?_; intro a2 c2 w6 hrows honly hmv)
            have hS6 := hS.only honly (fun g h1 h2 => HA.out g (.inl h2) (blk_eq h1).symm)
            have HA6 : Hid (∀ g, OwnR.fp a2 (rs ++ [(a6, l, d6)]) g → g ≠ w.heap.size + 1) := Lib.hid (fun g hf => by
              rcases hf with h1 | ⟨r, h1, h2⟩
              · rcases hmv with h3 | ⟨g', h3, h4⟩
                · exact HA.out g (.inl (by rw [← h3]; exact h1))
                · rw [h1] at h3
                  cases h3
                  have := L6.out
                  omega
              · rcases List.mem_append.1 h1 with h1 | h1
                · exact HA.out g (.inr ⟨r, h1, h2⟩)
                · simp at h1
                  subst h1
                  exact (HA1.out g h2).2)
            have hE6 := hE.app hO.top honly (Nat.le_refl _)
            have e2 : (cyTo p n k).1 ++ [acc] = (cyTo p n (k + 1)).1 := by rw [E1.out]
            have e3 : s = (cyTo p n (k + 1)).2 := by rw [E1.out]
            rw [e2] at hrows
            rw [e3] at hS6
            clear hO hS hI hE honly hmv hsz hap e2 e3 hc
            go_wp2
            go_roundg (n - (k + 1))
            case measure => go_light; omega
            case rel => go_light; exact ⟨k + 1, m + 1, a2, c2, _, by omega, rfl, by go_num, rfl, by omega, hrows, hS6, HA6, hE6⟩
      · have e : cyTo p n (k + 1) = cyTo p n k := by rw [cyTo, hsn]; rfl
        rw [← e] at hO hS
        clear e hb hsn q1 q2 q3 q4
        go_wp2
        go_roundg (n - (k + 1))
        case measure => go_light; omega
        case rel => go_light; exact ⟨k + 1, m, a3, c3, rs, by omega, rfl, by go_num, rfl, by omega, hO, hS, HA, hE⟩
    · have hz : ¬ (k : Int) < (n : Int) := by omega
      obtain rfl : n = k := by omega
      go_wp2
      go_ret
      exact ⟨_, _, _, _, rfl, by rw [cyc, ← Hl.out]; exact hO, hE⟩
end Go.Proofs.Ytjlfngnmmmaefaa
