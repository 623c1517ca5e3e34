/- Reading rows of digits, by impl. Conditions: none. -/
import Derived.Test.YtnimmkfkijcbbaaDoorRds
import Derived.Test.YtnimmkfkijcbbaaDoorDig
import Derived.Test.YtnimmkfkijcbbaaDoorShl2
import Derived.Lib.ConvBytes
namespace Go.Proofs.YtnimmkfkijcbbaaDoor
open Go.RowKit

/-- The byte at a place, as a number. -/
def bi (l : List UInt8) (j : Nat) : Int := ((l.getD j 0).toNat : Int)
theorem bi_lo (l : List UInt8) (j : Nat) : 0 ≤ bi l j ∧ bi l j ≤ 255 := by
  have := (l.getD j 0).toNat_lt
  unfold bi; omega
theorem bi_get {l : List UInt8} {j : Nat} (h : j < l.length) : l[j]? = some (l.getD j 0) := by
  rw [List.getD_eq_getElem?_getD, List.getElem?_eq_getElem h]; rfl
theorem bytesWorld_ext (w : World) (s : ByteArray) : Ext w (Lib.bytesWorld w 5 s) := by
  have h : Lib.bytesWorld w 5 s = (w.drew.alloc (.cells (bytesRow s (grownCap w s.size 0 5)) 5 ((bytesRow s (grownCap w s.size 0 5)).size, (bytesRow s (grownCap w s.size 0 5)).size + 1))) := by
    have h1 := Lib.run_convert_string_bytes (P := Tryd.prog) w 9 42 5 s Tryd.underlying9 Tryd.underlying42 Tryd.underlying5
    have h2 := run_bytes_of_string (P := Tryd.prog) w 9 42 5 s Tryd.underlying9 Tryd.underlying42 Tryd.underlying5
    rw [h1] at h2
    simp only [Result.ok.injEq] at h2
    exact h2.2
  rw [h]
  exact ((Ext.refl w).drew).alloc _
/-- '[]byte(s)'. -/
theorem conv_bytes (w : World) (l : List UInt8) : ∃ g c w', (convert 9 42 (.string (bs l))).run Tryd.prog w = .ok (.slice (some ⟨g, 0, none⟩) l.length c) w' ∧ Ext w w' ∧ ∀ j, j < l.length → w'.cell? ⟨g, j, none⟩ = some (.int .u8 (bi l j)) := by
  have h1 := Lib.run_convert_string_bytes (P := Tryd.prog) w 9 42 5 (bs l) Tryd.underlying9 Tryd.underlying42 Tryd.underlying5
  rw [bs_size] at h1
  exact ⟨_, _, _, h1, bytesWorld_ext _ _, fun j hj => Lib.bytesWorld_cell w 5 (bs l) j (by rw [bs_size]; exact hj)⟩

theorem split_any (s : List UInt8) (m : Int) (w : World) (hm : w.cell? ⟨0, 0, none⟩ = some (.int .i64 m)) (hs : s.length < 4294967281) :
    Calls Tryd.prog 46 #[.string (bs s), .string ⟨#[47]⟩] w fun e w' => ∃ g, e = .returned (.slice (some ⟨g, 0, none⟩) (parts s).length (parts s).length) ∧ OwnT w' w.heap.size (some ⟨g, 0, none⟩) (parts s).length (parts s).length ((parts s).map bs) ∧ Ext w w' := by
  have hsp : (Lib.splitB (bs [47]) 0 (Lib.countB (bs s) (bs [47])) (bs s)).map (·.data.toList) = parts s := by
    rw [Lib.splitB_data]; exact split_parts s
  have hsp2 : Lib.splitB (bs [47]) 0 (Lib.countB (bs s) (bs [47])) (bs s) = (parts s).map bs := by
    rw [← hsp, List.map_map]
    conv => lhs; rw [← List.map_id (Lib.splitB _ _ _ _)]
    exact List.map_congr_left fun x _ => by simp [bs]
  have hc : Lib.countB (bs s) (bs [47]) + 1 = (parts s).length := by
    have := Lib.splitB_all (bs [47]) (by decide) 0 (Lib.countB (bs s) (bs [47])) (bs s) rfl
    rw [hsp2, List.length_map] at this; exact this.symm
  have hl := parts_len s
  refine (Any.strings_Split { Tryd.laysM146 with } Tryd.laysM146.i9 (bs s) (bs [47]) m w (by rw [bs_size]; exact hs) hm (by decide)).mono ?_
  rintro e w' ⟨rfl, rfl⟩
  refine ⟨w.heap.size, by rw [hc], ?_, (Ext.refl w).alloc _⟩
  refine Own.mk_ (cur := ((parts s).map fun x => Value.string (bs x)).toArray) (by simp) (Nat.le_refl _) ?_ (Nat.le_refl _) (by unfold maxLen; omega) (by simp) (by simp [Function.comp_def]; rw [List.take_of_length_le (by simp)])
  show (w.heap.push _)[w.heap.size]? = _
  rw [hsp2]; simp [Function.comp_def]; rfl

set_option maxRecDepth 100000 in
set_option maxHeartbeats 1600000 in
theorem readDigitRows_any (s : List UInt8) (m : Int) (w : World) (hm : w.cell? ⟨0, 0, none⟩ = some (.int .i64 m)) (hs : s.length ≤ 1048576) :
    Calls Tryd.prog 30 #[.string (bs s)] w (RetR w (rdRows s)) := by
  have hpl := parts_len s
  obtain ⟨N, hN⟩ : ∃ N, (parts s).length = N := ⟨_, rfl⟩
  have HN := Lib.hid hN
  have hNb : N ≤ 1048577 := by omega
  have hsp := split_any s m w hm (by omega)
  rw [hN] at hsp
  clear hN hpl
  go_enter Tryd.func30, Tryd.ntmps30
  go_wp2_with fail
  refine hsp.mono ?_
  rintro e w1 ⟨g, rfl, hP, hE1⟩
  have hNil := OwnR.nil_ w1 w1.heap.size
  clear hsp
  go_wp2
  go_loopg [3, 12] N (fun gh a i wr => ∃ (k : Nat) (ad : Option Addr) (d : Nat) (rs : List Row), k ≤ N ∧ gh = N - k ∧ i = .int .i64 k ∧ a = .slice ad k d ∧ OwnR wr w1.heap.size ad k d ((rdRows s).take k) rs ∧ Ext w1 wr)
  case atStart => exact ⟨0, _, _, _, Nat.zero_le _, rfl, rfl, rfl, hNil, Ext.refl _⟩
  case round =>
    clear hNil
    obtain ⟨k, ad, d, rs, hk, rfl, rfl, rfl, hO, hE⟩ := hrel
    by_cases hlt : k < N
    · obtain ⟨g', x, hg, _, hc, _, hx⟩ := hP.at_ (k := k) hlt
      cases hg
      obtain ⟨l, hl⟩ : ∃ l, (parts s)[k]? = some l := ⟨_, List.getElem?_eq_getElem (by rw [HN.out]; exact hlt)⟩
      have hxl : x = bs l := by
        have := hx.out
        rw [List.getElem?_map, hl] at this
        cases this; rfl
      subst hxl
      have hll : l.length ≤ 1048576 := Nat.le_trans (part_len (List.mem_of_getElem? hl)) hs
      have Hl := Lib.hid hl
      have hcA := hE.cell hc
      clear hl hx hc
      obtain ⟨gb, cb, wb, hcv, hEb, hby⟩ := conv_bytes wr l
      have hszA := hE1.size
      have hszB := hE.size
      have hOb := hO.ext hEb
      have hEwb := hE.trans hEb
      have hNl := Own.nil_ 2 (Value.int .i64) wb wb.heap.size
      clear hO hE
      go_wp2
      go_loopg [6, 19] l.length (fun gh r i wi => ∃ (j : Nat) (ar : Option Addr) (dr : Nat), j ≤ l.length ∧ gh = l.length - j ∧ i = .int .i64 j ∧ r = .slice ar j dr ∧ OwnI wi wb.heap.size ar j dr ((l.take j).map dv) ∧ Ext wb wi)
      case atStart => exact ⟨0, _, _, Nat.zero_le _, rfl, rfl, rfl, hNl, Ext.refl _⟩
      case round =>
        clear hNl
        obtain ⟨j, ar, dr, hj, rfl, rfl, rfl, hI, hEi⟩ := hrel
        by_cases hlj : j < l.length
        · have hcB := hEi.cell (hby j hlj)
          have hbl := bi_lo l j
          obtain ⟨hb1, hb2⟩ := hbl
          have hszI := hEi.size
          go_wp2_with (at_builtin; refine app_I rfl _ _ rfl hI hszI rfl (by omega) rfl rfl ?_; intro ad' d' w3 hrow honly hmv)
          go_roundg (l.length - (j + 1))
          case measure => go_light; omega
          case rel =>
            go_light
            refine ⟨j + 1, ad', d', hlj, rfl, by go_num, rfl, ?_, hEi.only honly (fun b hb => (hI.lt hb).1)⟩
            rw [List.take_add_one, bi_get hlj, List.map_append]
            exact hrow
        · obtain rfl : j = l.length := by omega
          rw [List.take_length] at hI
          have hOw := hOb.ext hEi
          have hszI := hEi.size
          have hszW := hEb.size
          have hap : ∀ g, blk ar = some g → ¬ OwnR.fp ad rs g := fun g hg hf => by
            have h1 := (hI.lt hg).1
            have h2 := (hOb.lt hf).2
            omega
          have hR := hI.base (B' := w1.heap.size) (by omega)
          have hsz : w1.heap.size ≤ wr.heap.size := by omega
          clear hOb hI
          go_wp2_with (at_builtin; refine app_S rfl _ _ rfl hOw hsz hR hap rfl (by omega) rfl rfl ?_; intro ad' d' w3 hrows honly hmv)
          go_roundg (N - (k + 1))
          case measure => go_light; omega
          case rel =>
            go_light
            refine ⟨k + 1, ad', d', rs ++ [(ar, l.length, dr)], hlt, rfl, by go_num, rfl, ?_, (hEwb.trans hEi).only honly (fun b hb => (hOw.lt (.inl hb)).1)⟩
            have e : (rdRows s)[k]? = some (l.map dv) := by rw [rdRows, List.getElem?_map, Hl.out]; rfl
            rw [List.take_add_one, e]
            exact hrows
    · obtain rfl : k = N := by omega
      have hft : (rdRows s).take k = rdRows s := List.take_of_length_le (by rw [rdRows_len, HN.out]; exact Nat.le_refl _)
      rw [hft] at hO
      have hEf := hE1.trans hE
      have hOf := hO.base hE1.size
      clear hft hO hP hE hE1
      go_wp2
      go_ret
      exact ⟨_, _, _, _, rfl, hOf, hEf⟩
end Go.Proofs.YtnimmkfkijcbbaaDoor
