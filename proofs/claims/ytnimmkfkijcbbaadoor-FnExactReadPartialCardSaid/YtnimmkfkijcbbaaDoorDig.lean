/- The text of rows of digits, by impl. Conditions: none. -/
import Derived.Test.YtnimmkfkijcbbaaDoorDec
namespace Go.Proofs.YtnimmkfkijcbbaaDoor
open Go.RowKit

/-- The text of a row, each number by f. -/
def txB (f : Int → List UInt8) (xs : List Int) : List UInt8 := (xs.map f).flatten
/-- The text of rows, each number by f. -/
def txRows (f : Int → List UInt8) (p : List (List Int)) : List UInt8 := Lib.join (p.map (txB f)) [47]
theorem txB_take {f : Int → List UInt8} {xs : List Int} {k : Nat} (h : k < xs.length) : txB f (xs.take (k + 1)) = txB f (xs.take k) ++ f (gi xs k) := by
  rw [List.take_add_one, gi_get h]; simp [txB]
theorem txB_len {f : Int → List UInt8} (hf : ∀ v, (f v).length ≤ 2) (xs : List Int) : (txB f xs).length ≤ 2 * xs.length := by
  induction xs with
  | nil => simp [txB]
  | cons x r ih =>
    have h1 := hf x
    simp only [txB, List.map_cons, List.flatten_cons, List.length_append, List.length_cons] at *
    omega
theorem txB_one (xs : List Int) : txB (fun v => [dgB v]) xs = rowB xs := by
  induction xs with
  | nil => rfl
  | cons x r ih => rw [txB, List.map_cons, List.flatten_cons, ← txB, ih]; rfl
theorem joinTail_len (r : List (List UInt8)) (m : Nat) (h : ∀ x ∈ r, x.length ≤ m) : (Lib.joinTail [47] r).length ≤ (m + 1) * r.length := by
  induction r with
  | nil => simp [Lib.joinTail]
  | cons x r ih =>
    have h1 := h x (by simp)
    have h2 := ih (fun y hy => h y (by simp [hy]))
    simp only [Lib.joinTail, List.map_cons, List.flatten_cons, List.length_append, List.length_cons, List.length_nil, Nat.mul_add, Nat.mul_one] at *
    omega
theorem join_len (r : List (List UInt8)) (m : Nat) (h : ∀ x ∈ r, x.length ≤ m) : (Lib.join r [47]).length ≤ (m + 1) * r.length := by
  cases r with
  | nil => simp [Lib.join_nil]
  | cons x r =>
    have h1 := h x (by simp)
    have h2 := joinTail_len r m (fun y hy => h y (by simp [hy]))
    rw [Lib.join_cons, List.length_append, List.length_cons, Nat.mul_add]
    omega

abbrev OwnT (w : World) (B : Nat) (a : Option Addr) (n c : Nat) (xs : List ByteArray) : Prop := Own 9 Value.string w B a n c xs
theorem info_str : (Tryd.prog.info? 9).map (fun i => (i.zero, i.size, i.bytes)) = some (some (.string ⟨#[]⟩), 1, 16) := by kernel_rfl

/-- 'append(s, x)' on strings: the new element has just been laid. -/
theorem app_T {ops : Array Oper} {rest : List Oper} {o : Oper} {a : Act} {Q : Exit → Act → World → Prop} (hgd : o.guard = none) (s x : Operand)
    (ho : o.op = .call { callee := .builtin .append, args := #[s, x], argTypes := #[37, 37] })
    {w : World} {B : Nat} {ad : Option Addr} {n c : Nat} {xs : List ByteArray} (hown : OwnT w B ad n c xs) (hB : B ≤ w.heap.size) {v : ByteArray}
    {bk : Nat} (hbk : w.heap.size = bk) (hn : n + 1 ≤ 1099511627776) (hs : a.eval s = .slice ad n c) (hx : a.eval x = .slice (some ⟨bk, 0, none⟩) 1 1)
    (h : ∀ ad' c' w', OwnT w' B ad' (n + 1) c' (xs ++ [v]) → Ext w w' ∨ Only (onlyA ad) w w' → Only (onlyA ad) w w' → wpList Tryd.prog ops Q rest (a.put o.dst (.slice ad' (n + 1) c')) w') :
    wpList Tryd.prog ops Q (o :: rest) a (w.alloc (.cells #[.string v] 9)) := by
  subst hbk
  refine wpList_app Tryd.underlying37 info_str rfl (by decide) hgd s x ho (hown.alloc _) (by simp; omega) [v] rfl (cell_one_new _ _ _) (by intro u hu; simp at hu; subst hu; rfl) hn hs hx ?_
  intro ad' c' w' h1 h2 h3
  have h4 : Only (onlyA ad) w w' := Only.trans (Only.of_ext ((Ext.refl w).alloc _)) h2
  exact h ad' c' w' h1 (.inr h4) h4

theorem isB_ext {T e : TypeId} {B b : Nat} {l : List Value} {w w' : World} (h : Lib.IsBuilder T e B b l w) (k : Ext w w') : Lib.IsBuilder T e B b l w' := by
  have go : ∀ p, Lib.BuilderAt T e B b p l w → Lib.BuilderAt T e B b p l w' := by
    intro p hp
    have hlt := hp.lt
    obtain ⟨hB, v, hb, hown, hne⟩ := hp
    refine ⟨hB, v, by rw [Below.block k b hlt]; exact hb, ?_, hne⟩
    obtain ⟨h1, h2⟩ := hown
    refine ⟨h1, h2.imp id ?_⟩
    rintro ⟨g, cap, cur, e1, e2, e3, e4⟩
    refine ⟨g, cap, cur, e1, e2, ?_, e4⟩
    rw [Below.block k g (by rcases Nat.lt_or_ge g w.heap.size with h' | h'; exact h'; simp [Array.getElem?_eq_none h'] at e3)]
    exact e3
  exact h.imp (go _) (go _)

theorem writeString_any (B b : Nat) (l : List Value) (s : ByteArray) (w : World) (h : Lib.IsBuilder 50 5 B b l w) (hlen : l.length + s.size ≤ 140737488355328) (hBw : B ≤ w.heap.size) :
    Calls Tryd.prog 42 #[.pointer (some ⟨b, 0, none⟩), .string s] w fun e w' => e = .returned (.tuple #[.int .i64 s.size, .nilIface]) ∧ (Lib.BuilderAt 50 5 B b (.pointer (some ⟨b, 0, none⟩)) (l ++ Lib.strCells s) w' ∧ Below B w w') :=
  Any.Builder_WriteString { Tryd.lays156 with } Tryd.Builder_Extra_156 B b l s w h hlen hBw

set_option maxRecDepth 100000 in
set_option maxHeartbeats 1600000 in
theorem digitRows_any (f : Int → List UInt8) (T : World → Prop) (ok : Int → Prop) (hT : ∀ w w', T w → Ext w w' → T w')
    (hd : ∀ v w, ok v → T w → Calls Tryd.prog 43 #[.int .i64 v] w fun e w' => e = .returned (.string (bs (f v))) ∧ Ext w w') (hf : ∀ v, (f v).length ≤ 2)
    (a : Option Addr) (n c : Nat) (p : List (List Int)) (w : World) (hp : RdR w a n c p) (hr : Rect p n n) (h1 : 1 ≤ n) (h10 : n ≤ 10) (hok : ∀ x y, x < n → y < n → ok (gi (gr p x) y)) (hw : T w) :
    Calls Tryd.prog 26 #[.slice a n c] w fun e w' => e = .returned (.string (bs (txRows f p))) ∧ Ext w w' := by
  have HR := Lib.hid hr
  have HT := Lib.hid hT
  have HD := Lib.hid hd
  have HF := Lib.hid hf
  have HO := Lib.hid hok
  have HW := Lib.hid hw
  have hcm := hp.max
  have hnc := hp.le
  have HN := Own.nil_ 9 Value.string w w.heap.size
  clear hr hT hd hf hok hw
  go_enter Tryd.func26, Tryd.ntmps26
  go_wp2
  go_loopg [3, 11] n (fun gh s i wr => ∃ (k : Nat) (ad : Option Addr) (d : Nat), k ≤ n ∧ gh = n - k ∧ i = .int .i64 k ∧ s = .slice ad k d ∧ OwnT wr w.heap.size ad k d ((p.take k).map fun r => bs (txB f r)) ∧ Ext w wr)
  case atStart => exact ⟨0, _, _, Nat.zero_le _, rfl, rfl, rfl, HN, Ext.refl _⟩
  case round =>
    clear HN
    obtain ⟨k, ad, d, hk, rfl, rfl, rfl, hOt, hE⟩ := hrel
    by_cases hlt : k < n
    · obtain ⟨b, off, ai, ni, ci, rfl, hcell, hrow⟩ := hp.gr hlt
      obtain rfl : ni = n := by rw [hrow.len]; exact HR.out.2 k hlt
      have hcell' := hE.cell hcell
      have hrow' := hrow.ext hE
      have hci := hrow.le
      have hfr := Lib.fresh_isBuilder 50 5 wr
      clear hcell
      go_wp2
      go_loopg [17] ni (fun gh j wi => ∃ (m : Nat), m ≤ ni ∧ gh = ni - m ∧ j = .int .i64 m ∧ Lib.IsBuilder 50 5 wr.heap.size wr.heap.size (Lib.byteCells (txB f ((gr p k).take m))) wi ∧ Ext wr wi)
      case atStart => exact ⟨0, Nat.zero_le _, rfl, rfl, hfr, (Ext.refl _).alloc _⟩
      case round =>
        clear hfr
        obtain ⟨m, hm, rfl, rfl, hB, hEi⟩ := hrel
        by_cases hlm : m < ni
        · obtain ⟨b2, off2, rfl, hc2⟩ := hrow'.gi hlm
          have hc2' := hEi.cell hc2
          have hlen := txB_len HF.out ((gr p k).take m)
          rw [List.length_take] at hlen
          have hvl := HF.out (gi (gr p k) m)
          clear hc2
          go_wp2_with fail
          refine (HD.out _ _ (HO.out k m hlt hlm) (HT.out _ _ HW.out (hE.trans hEi))).mono ?_
          rintro e w2 ⟨rfl, hE2⟩
          have hB2 := isB_ext hB hE2
          have hsz := hEi.size
          have hsz2 := hE2.size
          go_wp2_with fail
          refine (writeString_any _ _ _ _ _ hB2 (by rw [Lib.byteCells_length, bs_size]; omega) (by omega)).mono ?_
          rintro e w3 ⟨rfl, hB3, hE3⟩
          go_wp2
          go_roundg (ni - (m + 1))
          case measure => go_light; omega
          case rel =>
            go_light
            refine ⟨m + 1, hlm, rfl, by go_num, .inr ?_, (hEi.trans hE2).of_below hE3 (Nat.le_refl _)⟩
            rw [txB_take (by rw [HR.out.2 k hlt]; exact hlm), Lib.byteCells_append]
            exact hB3
        · obtain rfl : m = ni := by omega
          have hgl : (gr p k).take m = gr p k := List.take_of_length_le (by rw [HR.out.2 k hlt]; exact Nat.le_refl _)
          rw [hgl] at hB
          have hsz := hEi.size
          have hsz1 := hE.size
          clear hgl
          go_wp2_with fail
          refine (Tryd.Builder_String_any _ _ _ _ hB (by omega)).mono ?_
          rintro e w2 ⟨rfl, hE2⟩
          have hO2 := hOt.ext (hEi.of_below hE2 (Nat.le_refl _))
          have hE3 := hE.trans (hEi.of_below hE2 (Nat.le_refl _))
          have hsz3 := hE3.size
          clear hOt hB hE2 hEi hrow' hcell'
          go_wp2_with (at_builtin; refine app_T (v := bs (txB f (gr p k))) rfl _ _ rfl hO2 hsz3 rfl (by omega) rfl rfl ?_; intro ad' d' w3 hO3 _ honly)
          go_roundg (m - (k + 1))
          case measure => go_light; omega
          case rel =>
            go_light
            refine ⟨k + 1, ad', d', hlt, rfl, by go_num, rfl, ?_, hE3.only honly (fun b hb => (hO2.lt hb).1)⟩
            rw [List.take_add_one, gr_get (by rw [HR.out.1]; exact hlt), List.map_append]
            exact hO3
    · obtain rfl : k = n := by omega
      obtain ⟨g, x, rfl, hgB, _, _, _⟩ := hOt.at_ (k := 0) (by omega)
      have hpl : p.length = k := HR.out.1
      have hft : p.take k = p := List.take_of_length_le (by omega)
      rw [hft] at hOt
      have hcs : ∀ (j : Nat) x, (p.map fun r => bs (txB f r))[j]? = some x → wr.cell? ⟨g, 0 + j, none⟩ = some (.string x) := by
        intro j x hj
        have hjl := (List.getElem?_eq_some_iff.1 hj).1
        rw [List.length_map] at hjl
        obtain ⟨g', y, e1, _, h3, _, h4⟩ := hOt.at_ (k := j) (by omega)
        cases e1
        have h5 := h4.out
        rw [hj] at h5
        cases h5
        rw [Nat.zero_add]; exact h3
      have hgs := (hOt.lt (g := g) rfl).2
      have hdk := hOt.le.1
      have hml : (p.map fun r => bs (txB f r)).length = k := by rw [List.length_map]; exact hpl
      have hmm : (p.map fun r => bs (txB f r)).map (·.data.toList) = p.map (txB f) := by rw [List.map_map]; rfl
      have hjl : (txRows f p).length ≤ 21 * 10 := by
        refine Nat.le_trans (join_len _ 20 fun x hx => ?_) ?_
        · obtain ⟨r, hr, rfl⟩ := List.mem_map.1 hx
          obtain ⟨j, hj, rfl⟩ := List.mem_iff_getElem.1 hr
          have h2 := txB_len HF.out p[j]
          have h3 := HR.out.2 j (by omega)
          rw [gr_of (List.getElem?_eq_getElem hj)] at h3
          omega
        · rw [List.length_map]; omega
      clear hOt hft
      have hJ := Tryd.strings_Join g 0 d (p.map fun r => bs (txB f r)) (bs [47]) wr hcs hgs (by omega) (by omega) (by rw [hmm]; exact Nat.le_trans hjl (by decide))
      rw [hml, hmm] at hJ
      clear hcs
      go_wp2_with fail
      refine hJ.mono ?_
      rintro e w2 ⟨rfl, hE2⟩
      go_wp2
      go_ret
      exact ⟨rfl, hE.trans hE2⟩

theorem decDigits_dg (v : Nat) (h : v ≤ 9) : Lib.decDigits v = [dgB (v : Int)] := by
  rw [Lib.decDigits, dif_pos (by omega)]; rfl
theorem decimal_any (v : Nat) (hv : v ≤ 9) (w : World) : Calls Tryd.prog 43 #[.int .i64 v] w fun e w' => e = .returned (.string (bs [dgB v])) ∧ Ext w w' := by
  go_enter Tryd.func43, Tryd.ntmps43
  go_wp2_with fail
  refine (Tryd.strconv_FormatInt_10_small v (by omega) w).mono ?_
  rintro e w2 ⟨rfl, rfl⟩
  rw [decDigits_dg v hv]
  go_wp2
  go_ret
  exact ⟨rfl, Ext.refl _⟩
end Go.Proofs.YtnimmkfkijcbbaaDoor
