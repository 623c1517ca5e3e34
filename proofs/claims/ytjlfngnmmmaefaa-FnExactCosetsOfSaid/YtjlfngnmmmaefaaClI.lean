/- What permutations generate, by the program. Conditions: none. -/
import Derived.Test.YtjlfngnmmmaefaaKey
import Derived.Test.YtjlfngnmmmaefaaSrf
import Derived.Test.YtjlfngnmmmaefaaGenP
import Derived.Test.YtjlfngnmmmaefaaIdn
import Derived.Test.YtjlfngnmmmaefaaRos
import Derived.Test.YtjlfngnmmmaefaaFnd
import Derived.Test.YtjlfngnmmmaefaaUnitP
import Derived.Carry
namespace Go.Proofs.Ytjlfngnmmmaefaa
open Go.RowKit

theorem wpList_insert_own {P : Program} (w : World) {ops : Array Oper} {rest : List Oper} {o : Oper} {a : Act} {Q : Exit → Act → World → Prop}
    (hg : o.guard = none) (m x v : Operand) (t : TypeId) (hop : o.op = Op.insert t m x v)
    (k e : TypeId) (K : Maps.Keyed P k) (ht : P.underlying t = some (.map k e)) (R : Value → Option (DataW Unit × List MemPlace)) (b n : Nat) (D : DataW Unit)
    (hm : a.eval m = .map (some b)) (hown : w.ownsMap P k R b n D) (hn : n < maxLen) (key val : Value) (kl : Lit) (hx : a.eval x = key) (hv : a.eval v = val) (hkey : keyOf P k key = some kl)
    (d : DataW Unit) (ps : List MemPlace) (hval : R val = some (d, ps))
    (hK : ∀ w', w'.ownsMap P k R b (n + 1) (D.put kl d) → w.grownBy w' (some b) → wpList P ops Q rest (a.put o.dst undef) w') :
    wpList P ops Q (o :: rest) a w := by
  refine wpList_plain hg fun K' hK' => ?_
  obtain ⟨w', hrun, r1, r2⟩ := hown.update K ht hn hkey hval
  unfold Oper.wp
  simp [execOp, hop, hm, hx, hv, hrun, Result.andThen]
  exact hK' _ _ (hK w' r1 r2)

theorem grown_only {w w' : World} {b : Nat} (h : w.grownBy w' (some b)) : Only (fun g => g = b) w w' := ⟨h.os, h.tape, h.output, h.size, fun g hg hs => h.block g hg (fun e => hs (Option.some.inj e))⟩
theorem PermN'.byt {n : Nat} {p : List Int} (h : PermN' n p) (hn : n ≤ 32) : Byt p := fun v hv => by
  have := h.2.2 v hv
  rw [h.1] at this
  omega
theorem key_str {xs : List Int} (hl : xs.length ≤ 1048576) : keyOf Try.prog 9 (.string (keyS xs)) = some (keyL xs) := by
  have h := Go.WideMaps.keyOf_string_mk (P := Try.prog) (k := 9) Try.underlying9 (s := keyS xs) (by
    show (keyB xs).toArray.size ≤ maxLen
    rw [List.size_toArray, keyB_length]; unfold maxLen; omega)
  rw [h]
  rfl

set_option maxRecDepth 100000 in
set_option maxHeartbeats 6400000 in
theorem closure_any (n : Nat) (a : Option Addr) (m c : Nat) (gs : List (List Int)) (w : World) (hg : RdR w a m c gs) (hp : PermsN n gs) (hn1 : 1 ≤ n) (hn : n ≤ 32) (hm : m ≤ 1048576) :
    Calls Try.prog 66 #[.int .i64 n, .slice a m c] w fun e w' => ∃ a' m' c', e = .returned (.tuple #[.slice a' m' c', .bool (pb (¬ Big n gs 720))]) ∧ Ext w w' ∧ ∃ L, (∃ rs, OwnR w' w.heap.size a' m' c' L rs) ∧ Hid ((¬ Big n gs 720 → IsGen n gs L ∧ L.length ≤ 720) ∧ (Big n gs 720 → L = [])) := by
  have hmm := @run_makeMap Try.prog
  have hb1 := hg.le
  have hb2 := hg.max
  have Hl := Lib.hid hg.len
  have HP := Lib.hid hp
  clear hp
  have law : Go.Maps.Keyed Try.prog 9 := Go.Maps.string_keyed Try.underlying9
  have hzb : ∀ w : World, (zeroValue 4).run Try.prog w = .ok (.bool false) w := fun w => by kernel_rfl
  go_enter Try.func66, Try.ntmps66
  go_wp2_with fail
  refine (identity_any n _ (by omega)).mono ?_
  rintro e w2 ⟨a2, n2, c2, rfl, hO, hE2⟩
  have hN2 : n2 = n := by have := hO.len; rw [upto_length] at this; exact this
  have HN2 := Lib.hid hN2
  clear hN2
  have hR0 : OwnR (w2.alloc (.cells #[.slice a2 n2 c2] 26)) w.heap.size (some ⟨w2.heap.size, 0, none⟩) 1 1 [upto n] [(a2, n2, c2)] := by
    have e1 := Own.lit (E := 26) (f := Row.val) w2 #[.slice a2 n2 c2] (xs := [(a2, n2, c2)]) (n := 1) rfl (by unfold maxLen; omega) rfl
    refine ⟨e1.base hE2.size, rfl, fun i r x h1 h2 => ?_, fun r hr g hg e => ?_, fun i j r r' hij h1 h2 => ?_⟩
    · cases i with
      | zero => cases h1; cases h2; exact hO.ext ((Ext.refl _).alloc _)
      | succ i => simp at h1
    · rw [List.mem_singleton.1 hr] at hg
      have h8 := (hO.lt hg).2
      have h9 := blk_eq e
      omega
    · cases j with
      | zero => omega
      | succ j => simp at h2
  have hR1 := hR0.ext ((Ext.refl _).alloc (.map #[] 0))
  have hrd2 := (hO.ext (((Ext.refl w2).alloc (.cells #[.slice a2 n2 c2] 26)).alloc (.map #[] 0))).rdI
  have hM0 := World.ownsMap_made (w2.alloc (.cells #[.slice a2 n2 c2] 26)) Try.prog 9 (plainElem (H := Unit) Try.prog 4)
  have hsz2 : (w2.alloc (.cells #[.slice a2 n2 c2] 26)).heap.size = w2.heap.size + 1 := by simp
  rw [hsz2] at hM0
  have hE3 : Ext w ((w2.alloc (.cells #[.slice a2 n2 c2] 26)).alloc (.map #[] 0)) := (hE2.alloc _).alloc _
  have hz2 := hE2.size
  have hfp0 : ∀ g, OwnR.fp (some ⟨w2.heap.size, 0, none⟩) [(a2, n2, c2)] g → ¬ g = w2.heap.size + 1 := fun g hf e => by
    rcases hf with hf | ⟨r, hr, hf⟩
    · have := blk_eq hf; omega
    · rw [List.mem_singleton.1 hr] at hf
      have := (hO.lt hf).2
      omega
  clear hO hR0
  go_wp2_with fail
  refine (keyOf_any _ _ _ (upto n) _ hrd2 ((PermN'.one n).byt hn) (by have := HN2.out; omega)).mono ?_
  rintro e w4 ⟨rfl, hE4⟩
  have hM4 := om_ext hM0 hE4
  have hR4 := hR1.ext hE4
  have hE5 := hE3.trans hE4
  have hkey0 := key_str (xs := upto n) (by rw [upto_length]; omega)
  go_wp2_with (refine wpList_insert_own _ rfl _ _ _ 79 rfl 9 4 law Try.underlying79 (plainElem (H := Unit) Try.prog 4) (w2.heap.size + 1) 0 _ rfl hM4 (by unfold maxLen; omega) _ _ _ rfl rfl hkey0 _ [] (plainElem_bool Try.underlying4 true) ?_; intro w5 hown5 hgrow5)
  have hM5 : w5.ownsMap Try.prog 9 (plainElem (H := Unit) Try.prog 4) (w2.heap.size + 1) 1 (setK [upto n]) := by
    rw [show setK [upto n] = (setK []).put (keyL (upto n)) (.lit (.bool true)) from setK_snoc [] (upto n)]
    exact hown5
  have hR5 := hR4.only (grown_only hgrow5) (fun g hf => hfp0 g hf)
  have hE6 := hE5.grown hgrow5 (fun j hj => by cases hj; omega)
  clear hM0 hM4 hR1 hR4 hE3 hE4 hE5 hown5 hgrow5 hrd2
  go_wp2
  go_loopg [6, 8] (720 - 0) (fun gh s i wr => ∃ (x mE cE bE cnt : Nat) (rs : List Row) (xs : List (List Int)), x ≤ mE ∧ mE ≤ 720 ∧ gh = 720 - x ∧ s = .slice (some ⟨bE, 0, none⟩) mE cE ∧ i = .int .i64 x ∧ OwnR wr w.heap.size (some ⟨bE, 0, none⟩) mE cE xs rs ∧
    wr.ownsMap Try.prog 9 (plainElem (H := Unit) Try.prog 4) (w2.heap.size + 1) cnt (setK xs) ∧ Hid (cnt ≤ mE ∧ Bfs n gs xs x 0 ∧ ∀ g, OwnR.fp (some ⟨bE, 0, none⟩) rs g → ¬ g = w2.heap.size + 1) ∧ Ext w wr)
  case atStart => exact ⟨0, 1, 1, _, 1, _, _, Nat.zero_le _, by omega, rfl, rfl, rfl, hR5, hM5, Lib.hid ⟨Nat.le_refl _, Bfs.start n gs, hfp0⟩, hE6⟩
  case round =>
    obtain ⟨x, mE, cE, bE, cnt, rs, xs, hx, hmE, rfl, rfl, rfl, hO, hM, HB, hE⟩ := hrel
    clear hR5 hM5 hE6 hfp0 hkey0
    have hq1 := hO.top.le
    by_cases hlt : x < mE
    · have hz : (x : Int) < (mE : Int) := by omega
      go_wp2
      go_loopg [6, 30] m (fun gh s i wr => ∃ (k mE cE bE cnt : Nat) (rs : List Row) (xs : List (List Int)), k ≤ m ∧ x < mE ∧ mE ≤ 720 + k ∧ gh = m - k ∧ s = .slice (some ⟨bE, 0, none⟩) mE cE ∧ i = .int .i64 k ∧ OwnR wr w.heap.size (some ⟨bE, 0, none⟩) mE cE xs rs ∧
        wr.ownsMap Try.prog 9 (plainElem (H := Unit) Try.prog 4) (w2.heap.size + 1) cnt (setK xs) ∧ Hid (cnt ≤ mE ∧ Bfs n gs xs x k ∧ ∀ g, OwnR.fp (some ⟨bE, 0, none⟩) rs g → ¬ g = w2.heap.size + 1) ∧ Ext w wr)
      case atStart => exact ⟨0, mE, cE, bE, cnt, rs, xs, Nat.zero_le _, hlt, by omega, rfl, rfl, rfl, hO, hM, HB, hE⟩
      case round =>
        clear hO hM HB hE hx hmE hlt hz hq1
        obtain ⟨k, mE, cE, bE, cnt, rs, xs, hk, hlt, hmE, rfl, rfl, rfl, hO, hM, HB, hE⟩ := hrel
        have hq1 := hO.top.le
        by_cases hlk : k < m
        · have hz1 : (x : Int) < (mE : Int) := by omega
          have hz2 : (k : Int) < (m : Int) := by omega
          have HXl := Lib.hid hO.len
          obtain ⟨b4, o4, aq, nq, cq, hh, hcq, hrq⟩ := hO.rd.gr hlt
          cases hh
          rw [Nat.zero_add] at hcq
          obtain ⟨b5, o5, ag, ng, cg, rfl, hcg, hrg⟩ := (hg.ext hE).gr hlk
          have hpq := (HB.out.2.1.gen _ (gr_mem' (show x < xs.length by rw [← HXl.out]; exact hlt))).perm HP.out
          have hpg := HP.out _ (gr_mem' (show k < gs.length by rw [← Hl.out]; exact hlk))
          have hng : ng = n := by rw [hrg.len]; exact hpg.1
          have hnq : nq = n := by rw [hrq.len]; exact hpq.1
          have hpr := hpq.cmp hpg
          have Hbq := Lib.hid (show Below_ (gr xs x) ng by rw [hng]; exact hpq.below)
          have hnq2 : nq ≤ 32 := by omega
          have Hpr := Lib.hid hpr
          have hkey := key_str (xs := cmp (gr xs x) (gr gs k)) (by rw [hpr.1]; omega)
          have hat := setK_at xs (cmp (gr xs x) (gr gs k)) (hpr.byt hn) (fun q hq => ((HB.out.2.1.gen q hq).perm HP.out).byt hn)
          clear hpq hpg hng hnq hpr
          go_wp2_with fail
          refine (compose_any aq nq cq (gr xs x) ag ng cg (gr gs k) _ hrq hrg (by omega) Hbq.out).mono ?_
          rintro e w6 ⟨ar, nr, cr, rfl, hRr, hE7⟩
          go_wp2_with fail
          refine (keyOf_any ar nr cr (cmp (gr xs x) (gr gs k)) _ hRr.rdI (Hpr.out.byt hn) (by have h8 := hRr.len; rw [Hpr.out.1] at h8; omega)).mono ?_
          rintro e w7 ⟨rfl, hE8⟩
          have hE9 := hE7.trans hE8
          have hM7 := om_ext hM hE9
          have hO7 := hO.ext hE9
          have hR7 := hRr.ext hE8
          have hEw := hE.trans hE9
          have hnew : ∀ g, blk ar = some g → wr.heap.size ≤ g := fun g hg => (hRr.lt hg).1
          have hbM : w2.heap.size + 1 < wr.heap.size := om_lt hM
          have hltO : ∀ g, OwnR.fp (some ⟨bE, 0, none⟩) rs g → g < wr.heap.size := fun g hf => (hO.lt hf).2
          have hszr := hE.size
          have Hnew := Lib.hid (And.intro hnew hltO)
          clear hnew hltO hO hM hE hE7 hE8 hE9 hRr hcq hcg hrq hrg
          rcases pbc (cmp (gr xs x) (gr gs k) ∈ xs) with ⟨hb, Hb⟩ | ⟨hb, Hb⟩
          · rw [hb] at hat
            have HB2 : Hid (cnt ≤ mE ∧ Bfs n gs xs x (k + 1) ∧ ∀ g, OwnR.fp (some ⟨bE, 0, none⟩) rs g → ¬ g = w2.heap.size + 1) := Lib.hid ⟨HB.out.1, HB.out.2.1.seen Hb.out, HB.out.2.2⟩
            go_wp2_with (at_lookup; refine lookup_bool _ rfl _ _ 79 rfl 9 4 law Try.underlying79 Try.underlying4 (hzb _) (w2.heap.size + 1) cnt _ rfl hM7 _ _ rfl hkey true hat ?_)
            clear hat hkey hb
            go_wp2
            go_roundg (m - (k + 1))
            case measure => go_light; omega
            case rel => go_light; exact ⟨k + 1, mE, cE, bE, cnt, rs, xs, by omega, hlt, by omega, rfl, rfl, by go_num, hO7, hM7, HB2, hEw⟩
          · rw [hb] at hat
            have hcnt : cnt < 10000000 := by have := HB.out.1; omega
            go_wp2_with (first | (at_builtin; refine app_S rfl _ _ rfl hO8 hsz8 hR8 hap8 rfl (by omega) rfl rfl ?_; intro ad2 c9 w9 hrows9 honly9 hmv9) | (at_lookup; refine lookup_bool _ rfl _ _ 79 rfl 9 4 law Try.underlying79 Try.underlying4 (hzb _) (w2.heap.size + 1) cnt _ rfl hM7 _ _ rfl hkey false hat ?_) | (at_mapUpdate; refine wpList_mapUpdate_own _ rfl _ _ _ 79 rfl 9 4 law Try.underlying79 (plainElem (H := Unit) Try.prog 4) (w2.heap.size + 1) cnt _ rfl hM7 (by unfold maxLen; omega) _ _ _ rfl rfl hkey _ [] (plainElem_bool Try.underlying4 true) ?_; intro w8 hown8 hgrow8; have hO8 := hO7.only (grown_only hgrow8) (fun g hf => HB.out.2.2 g hf); have hR8 := (hR7.only (grown_only hgrow8) (fun g hg e => by have := Hnew.out.1 g hg; omega)).base hszr; have hap8 : ∀ g, blk ar = some g → ¬ OwnR.fp (some ⟨bE, 0, none⟩) rs g := fun g hg hf => by { have h1 := Hnew.out.1 g hg; have h2 := Hnew.out.2 g hf; omega }; have hE10 := hEw.grown hgrow8 (fun j hj => by cases hj; omega); have hsz8 := hE10.size) | go_in)
            have hEn := hE10.app hO8.top honly9 (Nat.le_refl _)
            have hbM8 : w2.heap.size + 1 < w8.heap.size := om_lt hown8
            have hM9 : w9.ownsMap Try.prog 9 (plainElem (H := Unit) Try.prog 4) (w2.heap.size + 1) (cnt + 1) (setK (xs ++ [cmp (gr xs x) (gr gs k)])) := by
              rw [setK_snoc]
              exact om_heap hown8 (honly9.block _ hbM8 (fun h => HB.out.2.2 _ (.inl h) rfl))
            obtain ⟨bE', rfl⟩ := hrows9.top.some_of (by omega)
            have hfp9 : ∀ g, OwnR.fp (some ⟨bE', 0, none⟩) (rs ++ [(ar, nr, cr)]) g → ¬ g = w2.heap.size + 1 := fun g hf e => by
              rcases hf with hf | ⟨r, hr, hf⟩
              · rcases hmv9 with hm | ⟨g', hm, hlt9⟩
                · exact HB.out.2.2 g (.inl (by rw [← hm]; exact hf)) e
                · rw [hm] at hf; cases hf; omega
              · rcases List.mem_append.1 hr with hr | hr
                · exact HB.out.2.2 g (.inr ⟨r, hr, hf⟩) e
                · rw [List.mem_singleton.1 hr] at hf
                  have := Hnew.out.1 g hf
                  omega
            have HB2 : Hid (cnt + 1 ≤ mE + 1 ∧ Bfs n gs (xs ++ [cmp (gr xs x) (gr gs k)]) x (k + 1) ∧ ∀ g, OwnR.fp (some ⟨bE', 0, none⟩) (rs ++ [(ar, nr, cr)]) g → ¬ g = w2.heap.size + 1) := Lib.hid ⟨by have := HB.out.1; omega, HB.out.2.1.new (by rw [← HXl.out]; exact hlt) (by rw [← Hl.out]; exact hlk) Hb.out, hfp9⟩
            clear hO7 hM7 hR7 hEw hO8 hR8 hap8 hE10 hsz8 hown8 hgrow8 honly9 hmv9 hfp9 hat hkey hb
            go_wp2
            go_roundg (m - (k + 1))
            case measure => go_light; omega
            case rel => go_light; exact ⟨k + 1, mE + 1, c9, bE', cnt + 1, _, _, by omega, by omega, by omega, rfl, rfl, by go_num, hrows9, hM9, HB2, hEn⟩
        · have hz2 : ¬ (k : Int) < (m : Int) := by omega
          obtain rfl : m = k := by omega
          have HXl := Lib.hid hO.len
          have HBn : Hid (Bfs n gs xs (x + 1) 0) := Lib.hid (Bfs.next (by have := HB.out.2.1; rwa [Hl.out] at this))
          by_cases hbig : (720 : Int) < (mE : Int)
          · have hg1 : decide ((720 : Int) < (mE : Int)) = true := decide_eq_true hbig
            have hB1 : Hid (Big n gs 720) := Lib.hid ⟨xs, HBn.out.nodup, HBn.out.gen, by rw [← HXl.out]; omega⟩
            have hB2 : Hid (pb (¬ Big n gs 720) = false) := Lib.hid (pb_false (fun h => h hB1.out))
            clear hbig
            go_wp2
            go_ret2
            exact ⟨none, 0, 0, by rw [hB2.out]; rfl, hE, [], ⟨[], OwnR.nil_ _ _⟩, Lib.hid ⟨fun h => absurd hB1.out h, fun _ => rfl⟩⟩
          · have hg1 : decide ((720 : Int) < (mE : Int)) = false := decide_eq_false hbig
            have hmE2 : mE ≤ 720 := by omega
            have HB2 : Hid (cnt ≤ mE ∧ Bfs n gs xs (x + 1) 0 ∧ ∀ g, OwnR.fp (some ⟨bE, 0, none⟩) rs g → ¬ g = w2.heap.size + 1) := Lib.hid ⟨HB.out.1, HBn.out, HB.out.2.2⟩
            clear hbig
            go_wp2
            go_roundg (720 - (x + 1))
            case measure => go_light; omega
            case rel => go_light; exact ⟨x + 1, mE, cE, bE, cnt, rs, xs, by omega, hmE2, rfl, rfl, by go_num, hO, hM, HB2, hE⟩
    · have hz : ¬ (x : Int) < (mE : Int) := by omega
      obtain rfl : mE = x := by omega
      have HXl := Lib.hid hO.len
      have hall : Hid (∀ y, y ∈ xs ↔ Gen n gs y) := Lib.hid (Bfs.all (k := 0) (by have := HB.out.2.1; rwa [HXl.out] at this))
      have hgen : Hid (IsGen n gs (srtL xs) ∧ (srtL xs).length ≤ 720) := Lib.hid ⟨IsGen.of HB.out.2.1.nodup hall.out, by rw [srtL_length, ← HXl.out]; exact hmE⟩
      have hnb : Hid (¬ Big n gs 720) := Lib.hid (not_big hgen.out.1.2.2 hgen.out.2)
      clear hM
      go_wp2_with fail
      refine (slSortFunc_any hO (by omega)).mono ?_
      rintro e w6 ⟨rfl, ⟨rs6, hO6, _⟩, honly⟩
      have hE7 : Ext w w6 := Ext.only hE honly (fun b hb => (hO.lt (.inl hb)).1)
      clear hO honly hE
      go_wp2
      go_ret2
      exact ⟨_, _, _, by rw [pb_true hnb.out]; rfl, hE7, srtL xs, ⟨rs6, hO6⟩, Lib.hid ⟨fun _ => hgen.out, fun h => absurd h hnb.out⟩⟩
end Go.Proofs.Ytjlfngnmmmaefaa
