/- IncidenceMatrix of both. Conditions: none. -/
import Derived.Test.YtjifkgnbiahekaaVd
import Derived.Test.YtjifkgnbiahekaaIsoP
import Derived.Test.YtjifkgnbiahekaaHas
import Derived.Test.YtjifkgnbiahekaaRep
import Derived.Test.YtjifkgnbiahekaaFill
import Derived.Test.YtjifkgnbiahekaaSet2
import Derived.Test.YtjifkgnbiahekaaTo
import Derived.Test.YtjifkgnbiahekaaApp
namespace Go.Proofs.Ytjifkgnbiahekaa
open Go.RowKit

/-- 1 where point a lies in block i. -/
def incF (p : List (List Int)) (a i : Nat) : Int := if (a : Int) ∈ gr p i then 1 else 0
noncomputable def incM (z : Int) (p : List (List Int)) : List (List Int) := if pb (DsnOk z p) then mat z.toNat p.length (incF p) else []
noncomputable def incC (z : Int) (p : List (List Int)) : Int := if pb (DsnOk z p) then 0 else 1
theorem incM_tot (z : Int) (p : List (List Int)) : tot (incM z p) ≤ 1048576 := by
  rw [incM]
  split
  · rename_i h
    have h1 := pb_iff.1 h
    rw [tot_rect (mat_rect _ _ _)]
    have := Nat.mul_le_mul (show z.toNat ≤ 32 by have := h1.1; omega) h1.2.1
    omega
  · simp [tot]
/-- As far as place y of block k. -/
def incP (p : List (List Int)) (k y a i : Nat) : Int := if i < k then incF p a i else if i = k ∧ (a : Int) ∈ (gr p k).take y then 1 else 0
theorem incP_zero {p : List (List Int)} {k a i : Nat} : incP p (k + 1) 0 a i = incP p k (gr p k).length a i := by
  rw [incP, incP, incF, List.take_length, List.take_zero]
  by_cases e : i = k
  · subst e
    simp
  · by_cases e2 : i < k
    · rw [if_pos (by omega), if_pos e2]
    · rw [if_neg (by omega), if_neg (fun h => List.not_mem_nil h.2), if_neg e2, if_neg (fun h => e h.1)]
theorem incP_step {p : List (List Int)} {n m k y v : Nat} (hv : v < n) (hy : y < (gr p k).length) (hg : gi (gr p k) y = v) :
    set2 (mat n m (incP p k y)) v k 1 = mat n m (incP p k (y + 1)) := by
  rw [set2, gr_of (mat_row hv), mat_set hv]
  refine mat_congr (fun x j hx hj => ?_)
  have ht : (gr p k).take (y + 1) = (gr p k).take y ++ [(v : Int)] := by
    obtain ⟨h1, h2⟩ := List.getElem?_eq_some_iff.1 (gi_get hy)
    rw [List.take_succ_eq_append_getElem h1, h2, hg]
  rw [incP, incP, ht]
  by_cases e : j < k
  · rw [if_neg (by omega), if_pos e, if_pos e]
  · rw [if_neg e, if_neg e]
    by_cases e2 : j = k
    · subst e2
      by_cases e3 : x = v
      · subst e3; simp
      · have e4 : ¬ (x : Int) = (v : Int) := by omega
        simp [e3, e4]
    · simp [e2]
theorem incP_start {p : List (List Int)} {n m : Nat} : mat n m (incP p 0 0) = mat n m fun _ _ => 0 := mat_congr (fun x y _ _ => by simp [incP])
theorem incP_end {p : List (List Int)} {n : Nat} : mat n p.length (incP p p.length 0) = mat n p.length (incF p) := mat_congr (fun x y _ hy => by rw [incP, if_pos hy])
theorem inc_row_step {p : List (List Int)} {k i : Nat} : ((List.range i).map (incF p k)) ++ [incF p k i] = (List.range (i + 1)).map (incF p k) := by rw [List.range_succ, List.map_append]; rfl
theorem inc_mat_step {p : List (List Int)} {k m : Nat} : mat k m (incF p) ++ [(List.range m).map (incF p k)] = mat (k + 1) m (incF p) := by rw [mat, mat, List.range_succ, List.map_append]; rfl

set_option maxRecDepth 100000 in
set_option maxHeartbeats 3200000 in
theorem specInc (z : Int) (a : Option Addr) (n c : Nat) (p : List (List Int)) (w : World) (hx : RdR w a n c p) (_ : p.length + tot p ≤ 1048576) (lo : -9223372036854775808 ≤ z) (hi : z ≤ 9223372036854775807) :
    Calls Try.prog 13 #[.agg #[.int .i64 z, .slice a n c]] w (RetRC w (incM z p) (incC z p)) := by
  have hEW : Ext w (w.alloc (.cells #[.int .i64 z, .slice a n c] 28)) := (Ext.refl _).alloc _
  have hB : Bx (w.alloc (.cells #[.int .i64 z, .slice a n c] 28)) w.heap.size z a n c := ⟨(World.cell?_alloc_at _ _ _ _ rfl).trans rfl, (World.cell?_alloc_at _ _ _ _ rfl).trans rfl⟩
  have hb1 := hx.le
  have hb2 := hx.max
  have Hl := Lib.hid hx.len
  go_enter Try.func13, Try.ntmps13
  go_wp2_with fail
  refine (l10Ok_any _ z a n c p _ hB (hx.ext hEW) lo hi).mono ?_
  rintro e w2 ⟨rfl, hQ⟩
  have hE2 : Ext _ w2 := hQ.ext
  have hE := hEW.trans hE2
  rcases pbc (DsnOk z p) with ⟨hb, Hb⟩ | ⟨hb, Hb⟩
  · rw [hb]
    obtain ⟨z', rfl⟩ := Int.eq_ofNat_of_zero_le (show 0 ≤ z by have := Hb.out.1; omega)
    have hz32 : z' ≤ 32 := by have := Hb.out.1; omega
    have hn : n ≤ 128 := by rw [Hl.out]; exact Hb.out.2.1
    have HB := Lib.hid (hB.ext hE2)
    have Hbb := Lib.hid hb
    have hw := hE.size
    clear hB hE2 hEW hb hQ
    obtain ⟨p0, p1⟩ := HB.out
    have H0 := OwnR.empty w2
    have hxw := Lib.hid (hx.ext hE)
    go_wp2
    clear p0 p1
    go_loopg [4, 5] z' (fun gh s i wr => ∃ (k : Nat) (ad : Option Addr) (d : Nat) (rs : List Row), k ≤ z' ∧ gh = z' - k ∧ i = .int .i64 k ∧ s = .slice ad k d ∧ OwnR wr w2.heap.size ad k d (mat k n (incF p)) rs ∧ Ext w2 wr)
    case atStart => exact ⟨0, _, 0, [], Nat.zero_le _, rfl, rfl, rfl, H0, (Ext.refl _).alloc _⟩
    case round =>
      obtain ⟨k, ad, d, rs, hk, rfl, rfl, rfl, hO, hEk⟩ := hrel
      clear H0
      obtain ⟨p0, p1⟩ := HB.out.ext hEk
      by_cases hlt : k < z'
      · have hz : (k : Int) < (z' : Int) := by omega
        have hO2 := Own2.startE hO hEk.size
        have hE0 := hEk.alloc (.cells #[] 2)
        clear hO hEk
        go_wp2
        clear p0 p1
        go_loopg [6, 7] n (fun gh s i wi => ∃ (y : Nat) (a6 : Option Addr) (d6 : Nat), y ≤ n ∧ gh = n - y ∧ i = .int .i64 y ∧ s = .slice a6 y d6 ∧ Own2 wi w2.heap.size ad k d (mat k n (incF p)) rs a6 y d6 ((List.range y).map (incF p k)) ∧ Ext w2 wi)
        case atStart => exact ⟨0, _, 0, Nat.zero_le _, rfl, rfl, rfl, hO2, hE0⟩
        case round =>
          obtain ⟨y, a6, d6, hy, rfl, rfl, rfl, hF, hEi⟩ := hrel
          clear hO2 hE0
          obtain ⟨p0, p1⟩ := HB.out.ext hEi
          by_cases hly : y < n
          · have hz2 : (y : Int) < (n : Int) := by omega
            obtain ⟨b, o, ai, m, ci, rfl, hc0, hrow⟩ := (hxw.out.ext hEi).gr hly
            have hsz := hEi.size
            by_cases hm : (k : Int) ∈ gr p y
            · have e1 : incF p k y = 1 := by rw [incF, if_pos hm]
              have Hm := Lib.hid hm
              have E1 := Lib.hid e1
              clear hm e1
              go_wp2_with fail
              refine (l00Has_any _ _ _ _ _ true _ hrow (decide_eq_true Hm.out)).mono ?_
              rintro e w5 ⟨rfl, rfl⟩
              go_wp2_with (at_builtin; refine app_I rfl _ _ rfl hF.row hsz rfl (by omega) rfl rfl ?_; intro a6' d6' w6 hrow6 honly hmv)
              rw [← E1.out, inc_row_step] at hrow6
              have hF2 := hF.app2 hrow6 honly hmv
              have hE6 := hEi.app hF.row honly (Nat.le_refl _)
              clear hF hEi honly hmv hsz hrow6 hc0 p0 p1 hrow
              go_wp2
              go_roundg (n - (y + 1))
              case measure => go_light; omega
              case rel => go_light; exact ⟨y + 1, a6', d6', by omega, rfl, by go_num, rfl, hF2, hE6⟩
            · have e1 : incF p k y = 0 := by rw [incF, if_neg hm]
              have Hm := Lib.hid hm
              have E1 := Lib.hid e1
              clear hm e1
              go_wp2_with fail
              refine (l00Has_any _ _ _ _ _ false _ hrow (decide_eq_false Hm.out)).mono ?_
              rintro e w5 ⟨rfl, rfl⟩
              go_wp2_with (at_builtin; refine app_I rfl _ _ rfl hF.row hsz rfl (by omega) rfl rfl ?_; intro a6' d6' w6 hrow6 honly hmv)
              rw [← E1.out, inc_row_step] at hrow6
              have hF2 := hF.app2 hrow6 honly hmv
              have hE6 := hEi.app hF.row honly (Nat.le_refl _)
              clear hF hEi honly hmv hsz hrow6 hc0 p0 p1 hrow
              go_wp2
              go_roundg (n - (y + 1))
              case measure => go_light; omega
              case rel => go_light; exact ⟨y + 1, a6', d6', by omega, rfl, by go_num, rfl, hF2, hE6⟩
          · have hz2 : ¬ (y : Int) < (n : Int) := by omega
            obtain rfl : n = y := by omega
            have hsz := hEi.size
            go_wp2_with (at_builtin; refine app_S rfl _ _ rfl hF.rows hsz hF.row hF.apart rfl (by omega) rfl rfl ?_; intro a4' c4' w4 hrows honly hmv)
            rw [inc_mat_step] at hrows
            have hE4 := hEi.app hF.rows.top honly (Nat.le_refl _)
            clear hF hEi honly hmv hsz p0 p1
            go_wp2
            go_roundg (z' - (k + 1))
            case measure => go_light; omega
            case rel => go_light; exact ⟨k + 1, a4', c4', _, by omega, rfl, by go_num, rfl, hrows, hE4⟩
      · have hz : ¬ (k : Int) < (z' : Int) := by omega
        obtain rfl : z' = k := by omega
        go_wp2
        go_ret2
        exact RetRC.mk_ hO hw (by rw [incM, if_pos Hbb.out, Int.toNat_natCast, ← Hl.out]) (by rw [incC, if_pos Hbb.out]) (hE.trans hEk)
  · rw [hb]
    go_wp2
    go_ret2
    exact RetRC.nil_ (by rw [incM, hb]; rfl) (by rw [incC, hb]; rfl) hE

set_option maxRecDepth 100000 in
set_option maxHeartbeats 3200000 in
theorem incidences_any (z : Nat) (a : Option Addr) (n c : Nat) (p : List (List Int)) (w0 : World) (hx0 : RdR w0 a n c p) (hd : DsnOk z p) :
    Calls Try.prog 50 #[.agg #[.int .i64 z, .slice a n c]] w0 (RetR w0 (mat z n (incF p))) := by
  have hz32 : z ≤ 32 := by have := hd.1; omega
  have hmk := run_make_row' (P := Try.prog) 22 38 (.slice none 0 0) 24 Try.underlying22 Try.info_S rfl .i64 .i64 z (by omega) (by omega)
  have hb1 := hx0.le
  have hb2 := hx0.max
  have Hx := Lib.hid hx0.len
  have hn : n ≤ 128 := by rw [Hx.out]; exact hd.2.1
  have hmk2 := run_make_row' (P := Try.prog) 38 2 (.int .i64 0) 8 Try.underlying38 Try.info_i64 rfl .i64 .i64 n (by omega) (by omega)
  have hall : Hid (AllBlk (z : Int) p) := Lib.hid hd.2.2.1
  clear hd
  have hEW : Ext w0 (w0.alloc (.cells #[.int .i64 z, .slice a n c] 28)) := (Ext.refl _).alloc _
  have hB : Bx (w0.alloc (.cells #[.int .i64 z, .slice a n c] 28)) w0.heap.size z a n c := ⟨(World.cell?_alloc_at _ _ _ _ rfl).trans rfl, (World.cell?_alloc_at _ _ _ _ rfl).trans rfl⟩
  have hszW : (w0.alloc (.cells #[.int .i64 z, .slice a n c] 28)).heap.size = w0.heap.size + 1 := by simp
  have H0 := OwnR.made (w0.alloc (.cells #[.int .i64 z, .slice a n c] 28)) z (by omega)
  have hEa : Ext (w0.alloc (.cells #[.int .i64 z, .slice a n c] 28)) _ := (Ext.refl _).alloc (.cells (madeCells #[.slice none 0 0] z) 38)
  rw [hszW] at H0
  go_enter Try.func50, Try.ntmps50
  go_wp2
  go_loopg [14] z (fun g i wr => ∃ (k : Nat) (rs : List Row), k ≤ z ∧ g = z - k ∧ i = .int .i64 k ∧ Hid (rs.length = k) ∧ OwnR wr (w0.heap.size + 1) (some ⟨w0.heap.size + 1, 0, none⟩) z z ((List.replicate z (List.replicate n 0)).take k ++ List.replicate (z - k) []) (rs ++ List.replicate (z - k) (none, 0, 0)) ∧ Ext (w0.alloc (.cells #[.int .i64 z, .slice a n c] 28)) wr)
  case atStart => exact ⟨0, [], Nat.zero_le _, rfl, rfl, rfl, H0, hEa⟩
  case round =>
    obtain ⟨k, rs, hk, rfl, rfl, Hrs, hO, hE⟩ := hrel
    clear H0 hEa
    obtain ⟨p0, p1⟩ := hB.ext hE
    by_cases hlt : k < z
    · have hz : (k : Int) < (z : Int) := by omega
      have hrow := own_made wr 2 (Value.int .i64) 0 n (by omega)
      have hO2 := hO.ext ((Ext.refl wr).alloc (.cells (madeCells #[.int .i64 0] n) 2))
      have hE2 := hE.alloc (.cells (madeCells #[.int .i64 0] n) 2)
      have hlw : w0.heap.size + 1 < wr.heap.size := (hO.lt (.inl rfl)).2
      have hO3 := hO2.setRow (k := k) rfl (some ⟨wr.heap.size, 0, none⟩, n, n) (List.replicate n 0) (hrow.base (by omega)) (fun g' hg' hf => by have := (hO.lt hf).2; have := (hrow.lt hg').1; omega)
      rw [take_set_drop (x := List.replicate n 0) (by simp [hlt]) (by simp) hlt, take_set_drop' Hrs.out hlt] at hO3
      have hE3 := hE2.setCell (p := ⟨w0.heap.size + 1, k, none⟩) (by rw [hszW]; exact Nat.le_refl _) (.slice (some ⟨wr.heap.size, 0, none⟩) n n)
      obtain ⟨g, r, ys, hg, hB', hoc, hof, _, _, _⟩ := hO2.at_ hlt
      cases hg
      rw [World.setCell_alloc_past _ _ _ _ hlw] at hO3 hE3
      rw [show Row.val (some ⟨wr.heap.size, 0, none⟩, n, n) = Value.slice (some ⟨wr.heap.size, 0, none⟩) n n from rfl] at hO3
      clear hO hO2 hE hE2
      go_wp2
      go_roundg (z - (k + 1))
      case measure => go_light; omega
      case rel => go_light; exact ⟨k + 1, rs ++ [(some ⟨wr.heap.size, 0, none⟩, n, n)], by omega, rfl, by go_num, by have := Hrs.out; simp [Hid, this], hO3, hE3⟩
    · have hz : ¬ (k : Int) < (z : Int) := by omega
      obtain rfl : z = k := by omega
      rw [Nat.sub_self, List.replicate_zero, List.replicate_zero, List.append_nil, List.append_nil, List.take_of_length_le (by simp), mat_replicate, ← incP_start (p := p)] at hO
      clear hmk hmk2
      replace hE := hEW.trans hE
      go_wp2
      go_loopg [28] n (fun g i wr => ∃ k : Nat, k ≤ n ∧ g = n - k ∧ i = .int .i64 k ∧ OwnR wr (w0.heap.size + 1) (some ⟨w0.heap.size + 1, 0, none⟩) z z (mat z n (incP p k 0)) rs ∧ Ext w0 wr)
      case atStart => exact ⟨0, Nat.zero_le _, rfl, rfl, hO, hE⟩
      case round =>
        clear hO hE p0 p1
        obtain ⟨k, hk, rfl, rfl, hO, hE⟩ := hrel
        by_cases hlt : k < n
        · have hz1 : (k : Int) < (n : Int) := by omega
          have hkp : k < p.length := by rw [← Hx.out]; exact hlt
          obtain ⟨b, o, ai, m, ci, rfl, hc0, hrow⟩ := hx0.gr hlt
          have hc := hE.cell hc0
          have hq1 := hrow.le
          have hq2 := hrow.max
          have Hm := Lib.hid hrow.len
          have hm32 : m ≤ 32 := by have := (hall.out k hkp).len; rw [← Hm.out] at this; omega
          go_wp2
          clear hc
          go_loopg [35] m (fun g i wr => ∃ y : Nat, y ≤ m ∧ g = m - y ∧ i = .int .i64 y ∧ OwnR wr (w0.heap.size + 1) (some ⟨w0.heap.size + 1, 0, none⟩) z z (mat z n (incP p k y)) rs ∧ Ext w0 wr)
          case atStart => exact ⟨0, Nat.zero_le _, rfl, rfl, hO, hE⟩
          case round =>
            clear hO hE
            obtain ⟨y, hy, rfl, rfl, hO2, hE2⟩ := hrel
            by_cases hly : y < m
            · have hz2 : (y : Int) < (m : Int) := by omega
              have hyl : y < (gr p k).length := by rw [← Hm.out]; exact hly
              obtain ⟨v, hv, hvz⟩ := (hall.out k hkp).at_ hyl
              obtain ⟨b1, o1, hai, hc1⟩ := hrow.gi hly
              rw [hv] at hc1
              subst hai
              have hc2 := hE2.cell hc1
              have hvz1 : (v : Int) < (z : Int) := by omega
              obtain ⟨g, gg, d, hg, hd1, hB1, hd2, hf2, hset⟩ := hO2.cellAt (mat_rect z n _) hvz hlt
              cases hg
              have hO3 := hset 1
              rw [incP_step hvz hyl hv] at hO3
              have hE3 := hE2.setCell (p := ⟨gg, k, none⟩) (show w0.heap.size ≤ gg by omega) (.int .i64 1)
              clear hset hO2 hE2 hv
              go_wp2
              go_roundg (m - (y + 1))
              case measure => go_light; omega
              case rel => go_light; exact ⟨y + 1, by omega, rfl, by go_num, hO3, hE3⟩
            · have hz2 : ¬ (y : Int) < (m : Int) := by omega
              obtain rfl : m = y := by omega
              have e : (mat z n (incP p k m)) = mat z n (incP p (k + 1) 0) := mat_congr (fun x y _ _ => by rw [incP_zero, ← Hm.out])
              rw [e] at hO2
              clear e
              go_wp2
              go_roundg (n - (k + 1))
              case measure => go_light; omega
              case rel => go_light; exact ⟨k + 1, by omega, rfl, by go_num, hO2, hE2⟩
        · have hz1 : ¬ (k : Int) < (n : Int) := by omega
          obtain rfl : n = k := by omega
          have e : mat z n (incP p n 0) = mat z n (incF p) := mat_congr (fun x y _ hy => by rw [incP, if_pos hy])
          rw [e] at hO
          clear e
          go_wp2
          go_ret
          exact ⟨_, _, _, _, rfl, hO.base (by omega), hE⟩

set_option maxHeartbeats 800000 in
theorem implInc (z : Int) (a : Option Addr) (n c : Nat) (p : List (List Int)) (w : World) (hx : RdR w a n c p) (_ : p.length + tot p ≤ 1048576) (_ : -9223372036854775808 ≤ z) (_ : z ≤ 9223372036854775807) :
    Calls Try.prog 15 #[.agg #[.int .i64 z, .slice a n c]] w (RetRC w (incM z p) (incC z p)) := by
  have hEW : Ext w (w.alloc (.cells #[.int .i64 z, .slice a n c] 28)) := (Ext.refl _).alloc _
  have hB : Bx (w.alloc (.cells #[.int .i64 z, .slice a n c] 28)) w.heap.size z a n c := ⟨(World.cell?_alloc_at _ _ _ _ rfl).trans rfl, (World.cell?_alloc_at _ _ _ _ rfl).trans rfl⟩
  have Hl := Lib.hid hx.len
  go_enter Try.func15, Try.ntmps15
  go_wp2_with fail
  refine (validDesign_any z a n c p _ (hx.ext hEW)).mono ?_
  rintro e w2 ⟨rfl, hQ⟩
  have hE2 : Ext _ w2 := hQ
  have hE := hEW.trans hE2
  rcases pbc (DsnOk z p) with ⟨hb, Hb⟩ | ⟨hb, Hb⟩
  · rw [hb]
    obtain ⟨z', rfl⟩ := Int.eq_ofNat_of_zero_le (show 0 ≤ z by have := Hb.out.1; omega)
    obtain ⟨p0, p1⟩ := hB.ext hE2
    go_wp2_with fail
    refine (incidences_any z' a n c p _ (hx.ext hE) Hb.out).mono ?_
    rintro e w3 ⟨a3, n3, c3, rs, rfl, hO, hE3⟩
    go_wp2
    go_ret2
    exact RetRC.mk_ hO hE.size (by rw [incM, if_pos hb, Int.toNat_natCast, ← Hl.out]) (by rw [incC, if_pos hb]) (hE.trans hE3)
  · rw [hb]
    go_wp2
    go_ret2
    exact RetRC.nil_ (by rw [incM, hb]; rfl) (by rw [incC, hb]; rfl) hE
end Go.Proofs.Ytjifkgnbiahekaa
