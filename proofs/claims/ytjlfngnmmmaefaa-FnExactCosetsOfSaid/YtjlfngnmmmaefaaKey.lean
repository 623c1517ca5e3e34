/- A list of small numbers as a string, and sets of such. Conditions: none. -/
import Derived.Maps.OwnSet
import Derived.Laws.IdiomStrings
import Derived.Test.YtjlfngnmmmaefaaApp
import Derived.Test.YtjlfngnmmmaefaaTl
import Derived.Test.YtjlfngnmmmaefaaUnitP
namespace Go.Proofs.Ytjlfngnmmmaefaa
open Go.RowKit

theorem u8_nat {n : Nat} (h : n < 256) : (UInt8.ofNat n).toNat = n := by
  first
    | exact UInt8.toNat_ofNat_of_lt h
    | (rw [UInt8.toNat_ofNat']; exact Nat.mod_eq_of_lt h)
theorem snoc_ind {α : Type} {P : List α → Prop} (h0 : P []) (h1 : ∀ l x, P l → P (l ++ [x])) (l : List α) : P l := by
  have key : ∀ r : List α, P r.reverse := by
    intro r
    induction r with
    | nil => exact h0
    | cons x r ih => rw [List.reverse_cons]; exact h1 _ _ ih
  have := key l.reverse
  rwa [List.reverse_reverse] at this

def keyB (xs : List Int) : List UInt8 := xs.map fun v => UInt8.ofNat v.toNat
def keyS (xs : List Int) : ByteArray := ⟨(keyB xs).toArray⟩
/-- All numbers lie below 256. -/
def Byt (xs : List Int) : Prop := ∀ v, v ∈ xs → 0 ≤ v ∧ v < 256
theorem keyB_length (xs : List Int) : (keyB xs).length = xs.length := by simp [keyB]
theorem keyB_inj {xs ys : List Int} (hx : Byt xs) (hy : Byt ys) (h : keyB xs = keyB ys) : xs = ys := by
  have hl : xs.length = ys.length := by rw [← keyB_length xs, ← keyB_length ys, h]
  refine list_ext_gi hl (fun k hk => ?_)
  have h1 := hx _ (gi_mem hk)
  have h2 := hy _ (gi_mem (show k < ys.length by omega))
  have e1 : (keyB xs)[k]? = some (UInt8.ofNat (gi xs k).toNat) := by rw [keyB, List.getElem?_map, gi_get hk]; rfl
  have e2 : (keyB ys)[k]? = some (UInt8.ofNat (gi ys k).toNat) := by rw [keyB, List.getElem?_map, gi_get (by omega)]; rfl
  rw [h, e2] at e1
  have e3 := congrArg UInt8.toNat (Option.some.inj e1)
  rw [u8_nat (by omega), u8_nat (by omega)] at e3
  omega

theorem info_u8 : (Try.prog.info? 5).map (fun i => (i.zero, i.size, i.bytes)) = some (some (.int .u8 0), 1, 1) := by kernel_rfl

set_option maxRecDepth 100000 in
set_option maxHeartbeats 1600000 in
theorem keyOf_any (a : Option Addr) (n c : Nat) (xs : List Int) (w : World) (hx : RdI w a n c xs) (hb : Byt xs) (hn : n ≤ 1048576) :
    Calls Try.prog 82 #[.slice a n c] w fun e w' => e = .returned (.string (keyS xs)) ∧ Ext w w' := by
  have hmk := run_make_row' (P := Try.prog) 91 5 (.int .u8 0) 1 Try.underlying91 info_u8 rfl .i64 .i64 n (by omega) (by omega)
  have hb1 := hx.le
  have hb2 := hx.max
  have Hl := Lib.hid hx.len
  have Hb := Lib.hid hb
  clear hb
  have H0 := own_made w 5 (Value.int .u8) (0 : Int) n (by omega)
  have hE0 : Ext w (w.alloc (.cells (madeCells #[.int .u8 0] n) 5)) := (Ext.refl _).alloc _
  go_enter Try.func82, Try.ntmps82
  go_wp2
  clear hmk
  go_loopg [11] n (fun gh i wr => ∃ k : Nat, k ≤ n ∧ gh = n - k ∧ i = .int .i64 k ∧ Own 5 (Value.int .u8) wr w.heap.size (some ⟨w.heap.size, 0, none⟩) n n (xs.take k ++ List.replicate (n - k) (0 : Int)) ∧ Ext w wr)
  case atStart => exact ⟨0, Nat.zero_le _, rfl, rfl, H0, hE0⟩
  case round =>
    obtain ⟨k, hk, rfl, rfl, hO, hE⟩ := hrel
    clear H0 hE0
    by_cases hlt : k < n
    · have hz : (k : Int) < (n : Int) := by omega
      obtain ⟨b, o, rfl, hc⟩ := (hx.ext hE).gi hlt
      have hv := Hb.out _ (gi_mem (show k < xs.length by rw [← Hl.out]; exact hlt))
      obtain ⟨v, hv2⟩ := Int.eq_ofNat_of_zero_le hv.1
      have hv3 : v < 256 := by omega
      have hw : IntKind.u8.wrap (v : Int) = (v : Int) := by simp [IntKind.wrap, IntKind.bits, IntKind.signed]; omega
      obtain ⟨g, x, hg, hB, hoc, hof, _⟩ := hO.at_ hlt
      cases hg
      have hO2 := hO.set (k := k) rfl (v : Int)
      have he : (xs.take k ++ List.replicate (n - k) (0 : Int)).set k (v : Int) = xs.take (k + 1) ++ List.replicate (n - (k + 1)) (0 : Int) := by
        have h8 : xs[k]? = some (v : Int) := by rw [gi_get (by rw [← Hl.out]; exact hlt), hv2]
        have hl : (xs.take k).length = k := by rw [List.length_take]; have := Hl.out; omega
        obtain ⟨h1, h2⟩ := List.getElem?_eq_some_iff.1 h8
        rw [List.set_append_right _ _ (by omega), hl, Nat.sub_self, List.take_succ_eq_append_getElem h1, h2, List.append_assoc, show n - k = (n - (k + 1)) + 1 by omega, List.replicate_succ]
        rfl
      rw [he] at hO2
      have hE2 := hE.setCell (p := ⟨w.heap.size, k, none⟩) (Nat.le_refl _) (.int .u8 (v : Int))
      rw [hv2] at hc
      clear hO hE hv hv2 he
      go_wp2
      go_roundg (n - (k + 1))
      case measure => go_light; omega
      case rel => go_light; exact ⟨k + 1, by omega, rfl, by go_num, hO2, hE2⟩
    · have hz : ¬ (k : Int) < (n : Int) := by omega
      obtain rfl : n = k := by omega
      rw [Nat.sub_self, List.replicate_zero, List.append_nil, Hl.out, List.take_length, ← Hl.out] at hO
      have hcv : (convert 91 9 (.slice (some ⟨w.heap.size, 0, none⟩) n n)).run Try.prog wr = .ok (.string (keyS xs)) wr := by
        have h9 := run_convert_bytes_back (P := Try.prog) wr 91 9 5 ⟨w.heap.size, 0, none⟩ n (keyB xs) Try.underlying91 Try.underlying5 Try.underlying9 (fun j hj => by
          rw [keyB_length] at hj
          obtain ⟨g, x, hg, _, hoc, _, hxx⟩ := hO.at_ (k := j) (by rw [Hl.out]; exact hj)
          cases hg
          have e : (⟨w.heap.size, 0, none⟩ : Addr).add j = ⟨w.heap.size, j, none⟩ := by unfold Addr.add; split <;> simp_all
          rw [e, hoc]
          have h1 := gi_of hxx.out
          have h2 := Hb.out _ (gi_mem hj)
          have e3 : (keyB xs)[j]'(by rw [keyB_length]; exact hj) = UInt8.ofNat (gi xs j).toNat := by
            simp only [keyB, List.getElem_map]
            congr 2
            exact (gi_of (List.getElem?_eq_getElem hj)).symm
          rw [e3, u8_nat (by omega), ← h1]
          congr 2
          omega)
        rw [keyB_length, ← Hl.out] at h9
        exact h9
      clear hO
      go_wp2
      go_ret
      exact ⟨rfl, hE⟩

/-- The set of the keys of some lists. -/
def keyL (xs : List Int) : Lit := .string (keyB xs)
def setK (Q : List (List Int)) : DataW Unit := Maps.setOf (.lit (.bool true)) (Q.map keyL)
theorem setK_snoc (Q : List (List Int)) (p : List Int) : setK (Q ++ [p]) = (setK Q).put (keyL p) (.lit (.bool true)) := by rw [setK, List.map_append, List.map_singleton, Maps.setOf_snoc]; rfl
theorem isMap_setK (Q : List (List Int)) : Maps.IsMap (setK Q) := by
  refine snoc_ind (P := fun Q => Maps.IsMap (setK Q)) Maps.isMap_empty (fun l x ih => ?_) Q
  rw [setK_snoc]
  exact ih.put _ _
theorem setK_at (Q : List (List Int)) (p : List Int) (hp : Byt p) : (∀ q, q ∈ Q → Byt q) → (setK Q).atKey (keyL p) (.lit (.bool false)) = .lit (.bool (pb (p ∈ Q))) := by
  refine snoc_ind (P := fun Q => (∀ q, q ∈ Q → Byt q) → (setK Q).atKey (keyL p) (.lit (.bool false)) = .lit (.bool (pb (p ∈ Q)))) (fun _ => ?_) (fun Q q ih hQ => ?_) Q
  · rw [pb_false (fun h => by cases h)]; rfl
  · have ih := ih (fun q hq => hQ q (List.mem_append_left _ hq))
    rw [setK_snoc]
    by_cases e : p = q
    · subst e
      rw [Maps.atKey_put_same (isMap_setK Q) (show WideAt.IsKeyLit (keyL p) from trivial), pb_true (List.mem_append_right _ (List.mem_singleton.2 rfl))]
    · rw [Maps.atKey_put_other (fun h => e (keyB_inj hp (hQ q (List.mem_append_right _ (List.mem_singleton.2 rfl))) (by unfold keyL at h; exact Lit.string.inj h))), ih]
      by_cases h : p ∈ Q
      · rw [pb_true h, pb_true (List.mem_append_left _ h)]
      · rw [pb_false h, pb_false (fun h2 => by
          rcases List.mem_append.1 h2 with h3 | h3
          · exact h h3
          · exact e (List.mem_singleton.1 h3))]

/-- 'm[k]' at bools. -/
theorem lookup_bool {P : Program} (w : World) {ops : Array Oper} {rest : List Oper} {o : Oper} {a : Act} {Q : Exit → Act → World → Prop}
    (hg : o.guard = none) (m x : Operand) (t : TypeId) (hop : o.op = Op.lookup t m x false)
    (k e : TypeId) (K : Maps.Keyed P k) (ht : P.underlying t = some (.map k e)) (he : P.underlying e = some .bool) (hz : (zeroValue e).run P w = .ok (.bool false) w) (b n : Nat) (D : DataW Unit)
    (hm : a.eval m = .map (some b)) (hown : w.ownsMap P k (plainElem P e) b n D) (key : Value) (kl : Lit) (hx : a.eval x = key) (hkey : keyOf P k key = some kl) (c : Bool) (hat : D.atKey kl (.lit (.bool false)) = .lit (.bool c))
    (hK : wpList P ops Q rest (a.put o.dst (.bool c)) w) : wpList P ops Q (o :: rest) a w := by
  refine wpList_plain hg fun K' hK' => ?_
  obtain ⟨v, ps, hrun, hv⟩ := hown.lookup K ht hz (plainElem_bool he false) hkey
  rw [hat] at hv
  have hvc : v = .bool c := by
    unfold plainElem at hv
    rw [he] at hv
    cases v <;> simp at hv
    rw [hv.1]
  subst hvc
  unfold Oper.wp
  simp [execOp, hop, hm, hx, hrun, Result.andThen]
  exact hK' _ _ hK

theorem om_heap {P : Program} {k : TypeId} {R : Value → Option (DataW Unit × List MemPlace)} {w w' : World} {b n : Nat} {D : DataW Unit} (h : w.ownsMap P k R b n D) (hb : w'.heap[b]? = w.heap[b]?) : w'.ownsMap P k R b n D := by
  obtain ⟨es, clock, h1, h2⟩ := h
  exact ⟨es, clock, by rw [hb]; exact h1, h2⟩
theorem om_lt {P : Program} {k : TypeId} {R : Value → Option (DataW Unit × List MemPlace)} {w : World} {b n : Nat} {D : DataW Unit} (h : w.ownsMap P k R b n D) : b < w.heap.size := by
  obtain ⟨es, clock, h1, _⟩ := h
  exact (Array.getElem?_eq_some_iff.1 h1).1
theorem om_ext {P : Program} {k : TypeId} {R : Value → Option (DataW Unit × List MemPlace)} {w w' : World} {b n : Nat} {D : DataW Unit} (h : w.ownsMap P k R b n D) (hE : Ext w w') : w'.ownsMap P k R b n D := om_heap h (Below.block hE b (om_lt h))
end Go.Proofs.Ytjlfngnmmmaefaa
