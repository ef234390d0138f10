/- The yard: data, and the walks of valid, foes, free, stand, Stand; the document's examples; wakes; In; arguments opened. -/
import Derived.DeepKeys4
import Derived.Maps.Keyed
import Derived.Laws.StructEq
import Derived.Deep.DeepCutAuto
import Derived.Carry
import Derived.Sort.CutIn
import Derived.WalkLawsBesides
import Derived.Maps.RangeWalk
import Derived.WalkKit
import Derived.ProofKit
import Derived.OpenShut
import Derived.ChangeOld
import Derived.Below
import Derived.Lib.SmallJoins
import Derived.Deep.Slices
import Derived.Deep.Fields
import Derived.ChangeSame
import Derived.Test.YtopfhinnamhoiaaRoadW
import Derived.Test.YtopfhinnamhoiaaGround
import Derived.Test.YtopfhinnamhoiaaGridW
import Derived.Test.YtopfhinnamhoiaaRows
/- A map from pairs of small numbers to true. -/
namespace Go.Proofs.Ytopfhinnamhoiaa
open Go.RowKit Go.Bs Go.Yd Go.Pl Go.Sort Go.Maps

theorem kt166 : Try.prog.keyTypeAt 5 166 = true := by kernel_rfl
theorem tl166 : Try.prog.tiled 5 166 = true := by kernel_rfl
theorem law166 : Keyed Try.prog 166 := Keyed.of_law (deep_law (m := 5) (by omega) kt166 tl166 (by kernel_rfl))
def pk (p : Nat × Nat) : Value := .agg #[.int .i64 (p.1 : Int), .int .i64 (p.2 : Int)]
theorem pk_inj {p q : Nat × Nat} (h : pk p = pk q) : p = q := by
  simp only [pk, Value.agg.injEq, Array.mk.injEq, List.cons.injEq, Value.int.injEq, true_and, and_true] at h
  exact Prod.ext (by omega) (by omega)
theorem all64 : ((List.range 8).all fun a => (List.range 8).all fun b => (keyOf Try.prog 166 (pk (a, b))).isSome) = true := by kernel_rfl
theorem key166 {p : Nat × Nat} (h1 : p.1 < 8) (h2 : p.2 < 8) : ∃ l, keyOf Try.prog 166 (pk p) = some l := by
  have h := List.all_eq_true.1 (List.all_eq_true.1 all64 p.1 (by simp [h1])) p.2 (by simp [h2])
  exact Option.isSome_iff_exists.1 h

/-- Block b holds the map that is true at just the pairs ps. -/
def PMap (w : World) (b : Nat) (ps : List (Nat × Nat)) : Prop :=
  ∃ es clock, w.heap[b]? = some (.map es clock) ∧ (∀ e ∈ es.toList, ∃ p ∈ ps, e.key = pk p ∧ e.val = .bool true) ∧ (∀ p ∈ ps, ∃ e ∈ es.toList, e.key = pk p) ∧ ∀ p ∈ ps, p.1 < 8 ∧ p.2 < 8
section
variable {w w' : World} {b : Nat} {ps : List (Nat × Nat)}
theorem PMap.lt (h : PMap w b ps) : b < w.heap.size := by
  obtain ⟨es, clock, hb, _⟩ := h
  exact (Array.getElem?_eq_some_iff.1 hb).1
theorem PMap.same (h : PMap w b ps) (hb : w'.heap[b]? = w.heap[b]?) : PMap w' b ps := by
  obtain ⟨es, clock, h1, h2⟩ := h
  exact ⟨es, clock, hb.trans h1, h2⟩
theorem PMap.ext (h : PMap w b ps) (hb : Below w.heap.size w w') : PMap w' b ps := h.same (hb.block b h.lt)
theorem PMap.new (w : World) : PMap (w.alloc (.map #[] 0)) w.heap.size [] :=
  ⟨#[], 0, by show (w.heap.push _)[w.heap.size]? = _; rw [Array.getElem?_push, if_pos rfl], by simp, by simp, by simp⟩
theorem zv4 : ∀ w, (zeroValue 4).run Try.prog w = .ok (.bool false) w := fun w => by kernel_rfl
theorem PMap.look (h : PMap w b ps) {p : Nat × Nat} (h1 : p.1 < 8) (h2 : p.2 < 8) : (Instr.lookup 138 (.map (some b)) (pk p) false).run Try.prog w = .ok (.bool (decide (p ∈ ps))) w := by
  obtain ⟨es, clock, hb, e1, e2, e3⟩ := h
  obtain ⟨l, hl⟩ := key166 h1 h2
  have hes : ∀ e ∈ es.toList, ∃ l, keyOf Try.prog 166 e.key = some l := fun e he => by
    obtain ⟨q, hq, hk, _⟩ := e1 e he
    rw [hk]
    exact key166 (e3 q hq).1 (e3 q hq).2
  rcases law166.find w hl es.toList hes with ⟨h3, h4⟩ | ⟨j, e, h3, h4, h5⟩
  · have hn : p ∉ ps := fun hp => by
      obtain ⟨e, he, hk⟩ := e2 p hp
      exact h4 e he hk
    rw [decide_eq_false hn]
    simp [Instr.lookup, run_underlying Try.underlying138, MapKept.run_getObj_map hb, law166.check w _ hl, h3, Result.andThen]
  · have he : e ∈ es.toList := List.mem_of_getElem? h4
    obtain ⟨q, hq, hk, hv⟩ := e1 e he
    have hpq : p = q := pk_inj (by rw [← h5, hk])
    rw [decide_eq_true (by rw [hpq]; exact hq)]
    simp [Instr.lookup, run_underlying Try.underlying138, MapKept.run_getObj_map hb, law166.check w _ hl, h3, hv, Result.andThen]
theorem PMap.put (h : PMap w b ps) {p : Nat × Nat} (h1 : p.1 < 8) (h2 : p.2 < 8) : ∃ w', (Instr.mapUpdate 138 (.map (some b)) (pk p) (.bool true)).run Try.prog w = .ok () w' ∧ PMap w' b (p :: ps) ∧ w.grownBy w' (some b) := by
  obtain ⟨es, clock, hb, e1, e2, e3⟩ := h
  obtain ⟨l, hl⟩ := key166 h1 h2
  have hbl : b < w.heap.size := (Array.getElem?_eq_some_iff.1 hb).1
  have hes : ∀ e ∈ es.toList, ∃ l, keyOf Try.prog 166 e.key = some l := fun e he => by
    obtain ⟨q, hq, hk, _⟩ := e1 e he
    rw [hk]
    exact key166 (e3 q hq).1 (e3 q hq).2
  have hgr : ∀ o : Obj, w.grownBy { w with heap := w.heap.setIfInBounds b o } (some b) := fun o => ⟨rfl, rfl, rfl, by simp, fun k hk hne => by
    show (w.heap.setIfInBounds b o)[k]? = _
    rw [Array.getElem?_setIfInBounds]
    rw [if_neg (fun e => hne (by rw [e]))]⟩
  have hnew : ∀ o : Obj, (w.heap.setIfInBounds b o)[b]? = some o := fun o => by rw [Array.getElem?_setIfInBounds, if_pos rfl, if_pos hbl]
  rcases law166.find w hl es.toList hes with ⟨h3, h4⟩ | ⟨j, e, h3, h4, h5⟩
  · refine ⟨{ w with heap := w.heap.setIfInBounds b (.map (es.push { key := pk p, val := .bool true, born := clock }) (clock + 1)) }, ?_, ⟨es.push { key := pk p, val := .bool true, born := clock }, clock + 1, hnew _, ?_, ?_, ?_⟩, hgr _⟩
    · simp [Instr.mapUpdate, run_underlying Try.underlying138, MapKept.run_getObj_map hb, law166.check w _ hl, h3, MapKept.run_setObj_map _ hb, Result.andThen]
    · intro e he
      rw [Array.toList_push, List.mem_append] at he
      rcases he with he | he
      · obtain ⟨q, hq, hk⟩ := e1 e he
        exact ⟨q, List.mem_cons_of_mem _ hq, hk⟩
      · simp at he
        subst he
        exact ⟨p, List.mem_cons_self, rfl, rfl⟩
    · intro q hq
      rw [Array.toList_push]
      rcases List.mem_cons.1 hq with rfl | hq
      · exact ⟨_, List.mem_append_right _ (List.mem_singleton.2 rfl), rfl⟩
      · obtain ⟨e, he, hk⟩ := e2 q hq
        exact ⟨e, List.mem_append_left _ he, hk⟩
    · intro q hq
      rcases List.mem_cons.1 hq with rfl | hq
      · exact ⟨h1, h2⟩
      · exact e3 q hq
  · have he : e ∈ es.toList := List.mem_of_getElem? h4
    obtain ⟨q, hq, hk, hv⟩ := e1 e he
    have hpq : p = q := pk_inj (by rw [← h5, hk])
    have hj : es[j]? = some e := by simpa using h4
    have hmod : es.modify j (fun e => { e with key := pk p, val := .bool true }) = es := by
      apply Array.ext_getElem?
      intro i
      rw [Array.getElem?_modify]
      split
      · rename_i hij; subst hij
        rw [hj, Option.map_some, ← h5, ← hv]
      · rfl
    refine ⟨{ w with heap := w.heap.setIfInBounds b (.map es clock) }, ?_, ⟨es, clock, hnew _, ?_, ?_, ?_⟩, hgr _⟩
    · simp [Instr.mapUpdate, run_underlying Try.underlying138, MapKept.run_getObj_map hb, law166.check w _ hl, h3, hj, h5, law166.stays w hl, MapKept.run_setObj_map _ hb, Result.andThen, hmod]
    · intro e he
      obtain ⟨q, hq, hk⟩ := e1 e he
      exact ⟨q, List.mem_cons_of_mem _ hq, hk⟩
    · intro q' hq'
      rcases List.mem_cons.1 hq' with rfl | hq'
      · exact ⟨e, he, h5⟩
      · exact e2 q' hq'
    · intro q' hq'
      rcases List.mem_cons.1 hq' with rfl | hq'
      · exact ⟨h1, h2⟩
      · exact e3 q' hq'
end
end Go.Proofs.Ytopfhinnamhoiaa

/- Walk: Yard.valid. -/
namespace Go.Proofs.Ytopfhinnamhoiaa
open Go.RowKit Go.Bs Go.Yd Go.Pl Go.Sort

theorem run_store_func (P : Program) (w : World) (a : Addr) (m : Mode) (f : Fn) (x y : Array Value) : (store a (.func f x y) m).run P w = stored P w a (.func f x y) m := run_store P w a _ m rfl
theorem run_store_map (P : Program) (w : World) (a : Addr) (m : Mode) (r : Option Nat) : (store a (.map r) m).run P w = stored P w a (.map r) m := run_store P w a _ m rfl
attribute [local go_sem] run_store_func run_store_map
theorem szc3 : ∀ w, (sizeOf 3).run Try.prog w = .ok 1 w := fun w => by kernel_rfl
theorem eqA0 (d : Nat) (a b c e : Int) (w : World) : (Op.equalIn (d + 1 + 1) 64 (.agg #[.int .i64 a, .int .i64 b]) (.agg #[.int .i64 c, .int .i64 e])).run Try.prog w = .ok (a == c && b == e) w := by
  have h1 : ∀ x y w, (Op.equalIn (d + 1) 3 (.int .i64 x) (.int .i64 y)).run Try.prog w = .ok (x == y) w := fun x y w => run_equalIn_int w d 3 .i64 .i64 x y Try.underlying3
  have p0 : ∀ a b w, (part 3 #[.int .i64 a, .int .i64 b] 0).run Try.prog w = .ok (.int .i64 a) w := fun a b w => by kernel_rfl
  have p1 : ∀ a b w, (part 3 #[.int .i64 a, .int .i64 b] 1).run Try.prog w = .ok (.int .i64 b) w := fun a b w => by kernel_rfl
  unfold Op.equalIn
  simp only [Sem.run_bind, run_underlying Try.underlying64, Result.andThen_ok, szc3]
  cases h : (a == c) <;> cases h' : (b == e) <;> simp [Std.Legacy.Range.forIn_eq_forIn_range', List.range', p0, p1, h1, h, h', Result.andThen]
theorem eqA (a b c e : Int) (w : World) : (Op.equalIn 10000 64 (.agg #[.int .i64 a, .int .i64 b]) (.agg #[.int .i64 c, .int .i64 e])).run Try.prog w = .ok (a == c && b == e) w := eqA0 9998 a b c e w
theorem sz64 : ∀ w, (sizeOf 64).run Try.prog w = .ok 2 w := fun w => by kernel_rfl
theorem eqG : Try.prog.eqGuardType Try.prog.depth 64 = false := by kernel_rfl

def boxB (x : Int) : Bool := decide (0 ≤ x ∧ x ≤ 100000)
def foeB (n : Int) (p : Int × Int) : Bool := decide (0 ≤ p.1 ∧ p.1 ≤ n - 1) && (decide (0 ≤ p.2 ∧ p.2 ≤ n - 1) && decide (p.1 ≠ p.2))
def Yrd.okB (y : Yrd) : Bool := decide ((1 : Int) ≤ y.boxes.length ∧ (y.boxes.length : Int) ≤ 8) && (y.boxes.all boxB && (decide ((y.needs.length : Int) ≤ 8) && (y.needs.all boxB && (decide ((y.foes.length : Int) ≤ 20) && y.foes.all (foeB y.needs.length)))))
/-- How a yard lies. -/
structure YdAt (w : World) (y : Yrd) (A1 A2 A3 : Option Addr) : Prop where
  b : Cells w A1 1 encI y.boxes
  n : Cells w A2 1 encI y.needs
  f : Cells w A3 2 encP y.foes
theorem YdAt.ext {w w' : World} {y : Yrd} {A1 A2 A3 : Option Addr} (h : YdAt w y A1 A2 A3) (hb : Below w.heap.size w w') : YdAt w' y A1 A2 A3 := ⟨h.b.ext hb, h.n.ext hb, h.f.ext hb⟩

theorem box_ok (l : List Int) (w : World) : PredB Try.prog 104 #[] (Value.int .i64) boxB w l := by
  intro W x hx hb
  show Calls Try.prog 104 #[.int .i64 x] W fun e w' => e = .returned (.bool (boxB x)) ∧ Below W.heap.size W w'
  generalize hres : boxB x = res
  have Hres := Lib.hid (show decide (0 ≤ x ∧ x ≤ 100000) = res from hres)
  clear hres
  go_enter Try.func104, Try.ntmps104
  go_wp2_with fail
  refine (within_any _ _ _ _).mono ?_; rintro e w1 ⟨rfl, rfl⟩
  rw [Hres.out]
  go_wp2
  go_ret
  exact ⟨rfl, ext_refl _⟩

theorem idx_any (n : Nat) (c : Nat) (A : Option Addr) (b : Nat) (x : Int) (w : World) (hn : n ≤ 9223372036854775807) (hx : w.cell? ⟨b, 1, none⟩ = some (.slice A n c)) :
    Calls Try.prog 105 #[.int .i64 x, .pointer (some ⟨b, 0, none⟩)] w fun e w' => e = .returned (.bool (decide (0 ≤ x ∧ x ≤ (n : Int) - 1))) ∧ w = w' := by
  generalize hres : decide (0 ≤ x ∧ x ≤ (n : Int) - 1) = res
  have Hres := Lib.hid hres
  clear hres
  go_enter Try.func105, Try.ntmps105
  go_wp2_with fail
  refine (within_any _ _ _ _).mono ?_; rintro e w1 ⟨rfl, rfl⟩
  rw [Hres.out]
  go_wp2
  go_ret
  exact ⟨rfl, rfl⟩

theorem foe_ok (n : Nat) (c : Nat) (A : Option Addr) (b bx : Nat) (l : List (Int × Int)) (w : World) (hn : n ≤ 9223372036854775807) (hx : w.cell? ⟨b, 1, none⟩ = some (.slice A n c)) (hf : w.cell? ⟨bx, 0, none⟩ = some (.func (.func 105) #[] #[.pointer (some ⟨b, 0, none⟩)])) :
    PredB Try.prog 107 #[.pointer (some ⟨bx, 0, none⟩)] valP (foeB n) w l := by
  intro W p hp hb
  show Calls Try.prog 107 #[.agg #[.int .i64 p.1, .int .i64 p.2], .pointer (some ⟨bx, 0, none⟩)] W fun e w' => e = .returned (.bool (foeB n p)) ∧ Below W.heap.size W w'
  have hx1 := cell_ext hx hb
  have hf1 := cell_ext hf hb
  have m1 := cell_lt hf1
  have eg := enters_of Try.func105 (by kernel_rfl) rfl
  unfold Enters at eg
  have hb0 := ext_alloc W (.cells #[.int .i64 p.1, .int .i64 p.2] 64)
  have C1 := fun x => Lib.hid (idx_any n c A b x _ hn (cell_ext hx1 hb0))
  clear hx hf hb hp
  by_cases h1 : 0 ≤ p.1 ∧ p.1 ≤ (n : Int) - 1
  · by_cases h2 : 0 ≤ p.2 ∧ p.2 ≤ (n : Int) - 1
    · have hv : foeB n p = decide (p.1 ≠ p.2) := by unfold foeB; rw [decide_eq_true h1, decide_eq_true h2]; rfl
      have Hv := Lib.hid hv
      have D1 := C1 p.1
      have D2 := C1 p.2
      rw [decide_eq_true h1] at D1
      rw [decide_eq_true h2] at D2
      clear hv h1 h2 C1
      go_enter Try.func107, Try.ntmps107
      go_wp2_with fail
      refine D1.out.mono ?_; rintro e w1 ⟨rfl, rfl⟩
      go_wp2_with fail
      refine D2.out.mono ?_; rintro e w1 ⟨rfl, rfl⟩
      have hE := eqA
      have hG := eqG
      have hL := sz64
      go_wp2
      go_ret
      exact ⟨ret_congr (bool_congr (by rw [Hv.out]; by_cases h : p.1 = p.2 <;> simp [h])), hb0⟩
    · have hv : foeB n p = false := by unfold foeB; rw [decide_eq_false h2]; simp
      have Hv := Lib.hid hv
      have D1 := C1 p.1
      have D2 := C1 p.2
      rw [decide_eq_true h1] at D1
      rw [decide_eq_false h2] at D2
      clear hv h1 h2 C1
      go_enter Try.func107, Try.ntmps107
      go_wp2_with fail
      refine D1.out.mono ?_; rintro e w1 ⟨rfl, rfl⟩
      go_wp2_with fail
      refine D2.out.mono ?_; rintro e w1 ⟨rfl, rfl⟩
      go_wp2
      go_ret
      exact ⟨ret_congr (bool_congr Hv.out.symm), hb0⟩
  · have hv : foeB n p = false := by unfold foeB; rw [decide_eq_false h1]; simp
    have Hv := Lib.hid hv
    have D1 := C1 p.1
    rw [decide_eq_false h1] at D1
    clear hv h1 C1
    go_enter Try.func107, Try.ntmps107
    go_wp2_with fail
    refine D1.out.mono ?_; rintro e w1 ⟨rfl, rfl⟩
    go_wp2
    go_ret
    exact ⟨ret_congr (bool_congr Hv.out.symm), hb0⟩
set_option maxRecDepth 100000 in
set_option maxHeartbeats 2000000 in
theorem yvalid_any (y : Yrd) (A1 A2 A3 : Option Addr) (n1 n2 n3 c1 c2 c3 : Nat) (w : World) (h1 : y.boxes.length = n1) (h2 : y.needs.length = n2) (h3 : y.foes.length = n3) (m1 : n1 ≤ 9223372036854775807) (m2 : n2 ≤ 9223372036854775807) (m3 : n3 ≤ 9223372036854775807) (hd : YdAt w y A1 A2 A3) :
    Calls Try.prog 80 #[.agg #[.slice A1 n1 c1, .slice A2 n2 c2, .slice A3 n3 c3]] w fun e w' => e = .returned (.bool (Yrd.okB y)) ∧ Below w.heap.size w w' := by
  have hb0 : Below w.heap.size w ((w.alloc (.cells #[.slice A1 n1 c1, .slice A2 n2 c2, .slice A3 n3 c3] 61)).alloc (.cells #[.func (.func 105) #[] #[.pointer (some ⟨w.heap.size, 0, none⟩)]] 125)) := ((Below.refl _ _).alloc (Nat.le_refl _) _).alloc (by simp) _
  have CA := fun W hb => Lib.hid (all_int 104 #[] boxB A1 n1 c1 y.boxes W (enters_of Try.func104 (by kernel_rfl) rfl) h1 m1 (hd.b.ext hb) (box_ok _ _))
  have CB := fun W hb => Lib.hid (all_int 104 #[] boxB A2 n2 c2 y.needs W (enters_of Try.func104 (by kernel_rfl) rfl) h2 m2 (hd.n.ext hb) (box_ok _ _))
  have CC := fun W hb hx hf => Lib.hid (all_pr 107 #[.pointer (some ⟨w.heap.size + 1, 0, none⟩)] (foeB n2) A3 n3 c3 y.foes W (enters_of Try.func107 (by kernel_rfl) rfl) h3 m3 (hd.f.ext hb) (foe_ok n2 c2 A2 w.heap.size (w.heap.size + 1) y.foes W m2 hx hf))
  have hok : Yrd.okB y = (decide ((1 : Int) ≤ n1 ∧ (n1 : Int) ≤ 8) && (y.boxes.all boxB && (decide ((n2 : Int) ≤ 8) && (y.needs.all boxB && (decide ((n3 : Int) ≤ 20) && y.foes.all (foeB n2)))))) := by unfold Yrd.okB; rw [h1, h2, h3]
  rw [hok]
  clear hok hd h1 h2 h3
  generalize y.boxes.all boxB = q2 at *
  generalize y.needs.all boxB = q4 at *
  generalize y.foes.all (foeB n2) = q6 at *
  by_cases p1 : (1 : Int) ≤ n1 ∧ (n1 : Int) ≤ 8
  · have C1 := Lib.hid (within_t p1)
    rw [decide_eq_true p1]
    clear p1
    cases q2
    · rw [show (true && (false && (decide ((n2 : Int) ≤ 8) && (q4 && (decide ((n3 : Int) ≤ 20) && q6))))) = false from rfl]
      clear CB CC
      go_enter Try.func80, Try.ntmps80
      go_wp2_with fail
      refine (C1.out _).mono ?_; rintro e w1 ⟨rfl, rfl⟩
      go_wp2_with fail
      refine (CA _ hb0).out.mono ?_; rintro e w2 ⟨rfl, hb1⟩
      have hb2 := ext_trans hb0 hb1
      have x0 : w2.cell? ⟨w.heap.size, 0, none⟩ = some (.slice A1 n1 c1) := cell_ext (by simp) hb1
      have x1 : w2.cell? ⟨w.heap.size, 1, none⟩ = some (.slice A2 n2 c2) := cell_ext (by simp) hb1
      have x2 : w2.cell? ⟨w.heap.size, 2, none⟩ = some (.slice A3 n3 c3) := cell_ext (by simp) hb1
      have x3 : w2.cell? ⟨w.heap.size + 1, 0, none⟩ = some (.func (.func 105) #[] #[.pointer (some ⟨w.heap.size, 0, none⟩)]) := cell_ext (by simp) hb1
      go_wp2
      go_ret
      exact ⟨rfl, hb2⟩
    · by_cases p3 : (n2 : Int) ≤ 8
      · rw [decide_eq_true p3]
        cases q4
        · rw [show (true && (true && (true && (false && (decide ((n3 : Int) ≤ 20) && q6))))) = false from rfl]
          clear CC
          go_enter Try.func80, Try.ntmps80
          go_wp2_with fail
          refine (C1.out _).mono ?_; rintro e w1 ⟨rfl, rfl⟩
          go_wp2_with fail
          refine (CA _ hb0).out.mono ?_; rintro e w2 ⟨rfl, hb1⟩
          have hb2 := ext_trans hb0 hb1
          have x0 : w2.cell? ⟨w.heap.size, 0, none⟩ = some (.slice A1 n1 c1) := cell_ext (by simp) hb1
          have x1 : w2.cell? ⟨w.heap.size, 1, none⟩ = some (.slice A2 n2 c2) := cell_ext (by simp) hb1
          have x2 : w2.cell? ⟨w.heap.size, 2, none⟩ = some (.slice A3 n3 c3) := cell_ext (by simp) hb1
          have x3 : w2.cell? ⟨w.heap.size + 1, 0, none⟩ = some (.func (.func 105) #[] #[.pointer (some ⟨w.heap.size, 0, none⟩)]) := cell_ext (by simp) hb1
          go_wp2_with fail
          refine (CB _ hb2).out.mono ?_; rintro e w3 ⟨rfl, hb3⟩
          have hb4 := ext_trans hb2 hb3
          have y1 := cell_ext x1 hb3
          have y2 := cell_ext x2 hb3
          have y3 := cell_ext x3 hb3
          clear x0 x1 x2 x3
          go_wp2
          go_ret
          exact ⟨rfl, hb4⟩
        · by_cases p5 : (n3 : Int) ≤ 20
          · rw [decide_eq_true p5]
            rw [show (true && (true && (true && (true && (true && q6))))) = q6 from rfl]
            go_enter Try.func80, Try.ntmps80
            go_wp2_with fail
            refine (C1.out _).mono ?_; rintro e w1 ⟨rfl, rfl⟩
            go_wp2_with fail
            refine (CA _ hb0).out.mono ?_; rintro e w2 ⟨rfl, hb1⟩
            have hb2 := ext_trans hb0 hb1
            have x0 : w2.cell? ⟨w.heap.size, 0, none⟩ = some (.slice A1 n1 c1) := cell_ext (by simp) hb1
            have x1 : w2.cell? ⟨w.heap.size, 1, none⟩ = some (.slice A2 n2 c2) := cell_ext (by simp) hb1
            have x2 : w2.cell? ⟨w.heap.size, 2, none⟩ = some (.slice A3 n3 c3) := cell_ext (by simp) hb1
            have x3 : w2.cell? ⟨w.heap.size + 1, 0, none⟩ = some (.func (.func 105) #[] #[.pointer (some ⟨w.heap.size, 0, none⟩)]) := cell_ext (by simp) hb1
            go_wp2_with fail
            refine (CB _ hb2).out.mono ?_; rintro e w3 ⟨rfl, hb3⟩
            have hb4 := ext_trans hb2 hb3
            have y1 := cell_ext x1 hb3
            have y2 := cell_ext x2 hb3
            have y3 := cell_ext x3 hb3
            clear x0 x1 x2 x3
            go_wp2_with fail
            refine (CC _ hb4 y1 y3).out.mono ?_; rintro e w5 ⟨rfl, hb5⟩
            have hb6 := ext_trans hb4 hb5
            go_wp2
            go_ret
            exact ⟨rfl, hb6⟩
          · rw [decide_eq_false p5]
            rw [show (true && (true && (true && (true && (false && q6))))) = false from rfl]
            have p5' : (20 : Int) < n3 := by omega
            clear p5 CC
            go_enter Try.func80, Try.ntmps80
            go_wp2_with fail
            refine (C1.out _).mono ?_; rintro e w1 ⟨rfl, rfl⟩
            go_wp2_with fail
            refine (CA _ hb0).out.mono ?_; rintro e w2 ⟨rfl, hb1⟩
            have hb2 := ext_trans hb0 hb1
            have x0 : w2.cell? ⟨w.heap.size, 0, none⟩ = some (.slice A1 n1 c1) := cell_ext (by simp) hb1
            have x1 : w2.cell? ⟨w.heap.size, 1, none⟩ = some (.slice A2 n2 c2) := cell_ext (by simp) hb1
            have x2 : w2.cell? ⟨w.heap.size, 2, none⟩ = some (.slice A3 n3 c3) := cell_ext (by simp) hb1
            have x3 : w2.cell? ⟨w.heap.size + 1, 0, none⟩ = some (.func (.func 105) #[] #[.pointer (some ⟨w.heap.size, 0, none⟩)]) := cell_ext (by simp) hb1
            go_wp2_with fail
            refine (CB _ hb2).out.mono ?_; rintro e w3 ⟨rfl, hb3⟩
            have hb4 := ext_trans hb2 hb3
            have y1 := cell_ext x1 hb3
            have y2 := cell_ext x2 hb3
            have y3 := cell_ext x3 hb3
            clear x0 x1 x2 x3
            go_wp2
            go_ret
            exact ⟨rfl, hb4⟩
      · rw [decide_eq_false p3]
        rw [show (true && (true && (false && (q4 && (decide ((n3 : Int) ≤ 20) && q6))))) = false from rfl]
        have p3' : (8 : Int) < n2 := by omega
        clear p3 CB CC
        go_enter Try.func80, Try.ntmps80
        go_wp2_with fail
        refine (C1.out _).mono ?_; rintro e w1 ⟨rfl, rfl⟩
        go_wp2_with fail
        refine (CA _ hb0).out.mono ?_; rintro e w2 ⟨rfl, hb1⟩
        have hb2 := ext_trans hb0 hb1
        have x0 : w2.cell? ⟨w.heap.size, 0, none⟩ = some (.slice A1 n1 c1) := cell_ext (by simp) hb1
        have x1 : w2.cell? ⟨w.heap.size, 1, none⟩ = some (.slice A2 n2 c2) := cell_ext (by simp) hb1
        have x2 : w2.cell? ⟨w.heap.size, 2, none⟩ = some (.slice A3 n3 c3) := cell_ext (by simp) hb1
        have x3 : w2.cell? ⟨w.heap.size + 1, 0, none⟩ = some (.func (.func 105) #[] #[.pointer (some ⟨w.heap.size, 0, none⟩)]) := cell_ext (by simp) hb1
        go_wp2
        go_ret
        exact ⟨rfl, hb2⟩
  · have C1 := Lib.hid (within_f p1)
    rw [decide_eq_false p1]
    rw [Bool.false_and]
    clear p1 CA CB CC
    go_enter Try.func80, Try.ntmps80
    go_wp2_with fail
    refine (C1.out _).mono ?_; rintro e w1 ⟨rfl, rfl⟩
    go_wp2
    go_ret
    exact ⟨rfl, hb0⟩
end Go.Proofs.Ytopfhinnamhoiaa

/- Walk: foes. -/
namespace Go.Proofs.Ytopfhinnamhoiaa
open Go.RowKit Go.Bs Go.Yd Go.Pl Go.Sort
attribute [local go_sem] run_store_func run_store_map

def foeL (l : List (Int × Int)) : List (Nat × Nat) := l.foldl (fun ps p => (p.2.toNat, p.1.toNat) :: (p.1.toNat, p.2.toNat) :: ps) []
theorem bel_grown {w w' : World} {b : Nat} {M : List Nat} (h : w.grownBy w' (some b)) (hb : b ∈ M) : Dr.Bel M w w' :=
  ⟨h.os, h.tape, h.output, h.size, fun k hk hm => h.block k hk (fun e => by cases e; exact hm hb)⟩
theorem below_grown {w0 w w' : World} {b : Nat} (h : Below w0.heap.size w0 w) (hg : w.grownBy w' (some b)) (hb : w0.heap.size ≤ b) : Below w0.heap.size w0 w' :=
  h.grown hg h.size (fun k e => by cases e; exact hb)

set_option maxRecDepth 100000 in
set_option maxHeartbeats 2000000 in
theorem foes_any (y : Yrd) (A1 A2 A3 : Option Addr) (n1 n2 n3 c1 c2 c3 : Nat) (w : World) (h3 : y.foes.length = n3) (m3 : n3 ≤ 1000) (hd : YdAt w y A1 A2 A3)
    (hok : ∀ p ∈ y.foes, (0 ≤ p.1 ∧ p.1 < 8) ∧ (0 ≤ p.2 ∧ p.2 < 8)) :
    Calls Try.prog 82 #[.agg #[.slice A1 n1 c1, .slice A2 n2 c2, .slice A3 n3 c3]] w fun e w' => ∃ b : Nat, e = .returned (.map (some b)) ∧ w.heap.size ≤ b ∧ PMap w' b (foeL y.foes) ∧ Below w.heap.size w w' := by
  have hf := hd.f
  clear hd
  generalize hl : y.foes = l at *
  clear hl
  have H3 := Lib.hid h3
  clear h3
  go_enter Try.func82, Try.ntmps82
  have hmm := @run_makeMap Try.prog
  go_upto_region 2 with fail
  have hb0 : Below w.heap.size w ((w.alloc (.cells #[.slice A1 n1 c1, .slice A2 n2 c2, .slice A3 n3 c3] 61)).alloc (.map #[] 0)) := ((Below.refl _ _).alloc (Nat.le_refl _) _).alloc (by simp) _
  have hp0 : PMap ((w.alloc (.cells #[.slice A1 n1 c1, .slice A2 n2 c2, .slice A3 n3 c3] 61)).alloc (.map #[] 0)) (w.heap.size + 1) (foeL (l.take 0)) := by
    have := PMap.new (w.alloc (.cells #[.slice A1 n1 c1, .slice A2 n2 c2, .slice A3 n3 c3] 61))
    simpa [foeL] using this
  have x2 : ((w.alloc (.cells #[.slice A1 n1 c1, .slice A2 n2 c2, .slice A3 n3 c3] 61)).alloc (.map #[] 0)).cell? ⟨w.heap.size, 2, none⟩ = some (.slice A3 n3 c3) := cell_ext (by simp) (ext_alloc _ _)
  generalize (w.alloc (.cells #[.slice A1 n1 c1, .slice A2 n2 c2, .slice A3 n3 c3] 61)).alloc (.map #[] 0) = W0 at *
  go_wp2
  go_loopw [10] (fun x wr => ∃ k : Nat, x = .int .i64 k ∧ k ≤ n3 ∧ PMap wr (w.heap.size + 1) (foeL (l.take k)) ∧ Below w.heap.size w wr) (fun x _ => n3 - (intOf x).toNat)
  case atStart => exact ⟨0, rfl, by omega, hp0, hb0⟩
  case round =>
    clear hb0 hp0 x2
    obtain ⟨k, rfl, hk, hp, hb⟩ := hrel
    by_cases hlt : k < n3
    · have hlt' : (k : Int) < n3 := by omega
      have hk0 : (0 : Int) ≤ k := by omega
      have hkl : k < l.length := by rw [H3.out]; exact hlt
      obtain ⟨b, off, rfl, hbl, d0, d1⟩ := (Cells.ext hf hb).at2 hkl rfl
      have hq := hok l[k] (List.getElem_mem _)
      have hnx : foeL (l.take (k + 1)) = (l[k].2.toNat, l[k].1.toNat) :: (l[k].1.toNat, l[k].2.toNat) :: foeL (l.take k) := by
        rw [List.take_succ_eq_append_getElem hkl]
        unfold foeL
        rw [List.foldl_append]; rfl
      have Hnx := Lib.hid hnx
      clear hnx
      generalize l[k] = p at *
      obtain ⟨⟨a0, a1⟩, b0, b1⟩ := hq
      obtain ⟨a, ha⟩ := Int.eq_ofNat_of_zero_le a0
      obtain ⟨c, hc⟩ := Int.eq_ofNat_of_zero_le b0
      rw [ha] at d0 a1
      rw [hc] at d1 b1
      have Hac := Lib.hid (And.intro ha hc)
      clear ha hc a0 b0
      go_upto_region 5 with fail
      have hp2 := hp.ext (ext_alloc wr (.cells #[.int .i64 (a : Int), .int .i64 (c : Int)] 64))
      have hb2 := ext_trans hb (ext_alloc wr (.cells #[.int .i64 (a : Int), .int .i64 (c : Int)] 64))
      have hr2 : Blk (wr.alloc (.cells #[.int .i64 (a : Int), .int .i64 (c : Int)] 64)) wr.heap.size 64 [.int .i64 (a : Int), .int .i64 (c : Int)] := Blk.new wr 64 [.int .i64 (a : Int), .int .i64 (c : Int)]
      have hlm := hp.lt
      clear hp hb d0 d1 hbl
      generalize wr.alloc (.cells #[.int .i64 (a : Int), .int .i64 (c : Int)] 64) = W at *
      refine Dr.wp_region_plan 13 [w.heap.size + 1] (.q [0, 1, 2, 3, 4, 5, 6, 7, 8, 9, 10, 11] (.e1 12 .done)) (by kernel_rfl) (by kernel_rfl) ?_
      have hp3 := hp2.ext (ext_drew W)
      have hb3 := hb2.drew
      have hr3 := hr2.ext (ext_drew W)
      clear hp2 hb2 hr2
      generalize W.drew = W2 at *
      have q0 := Dr.cls_cell (M := [w.heap.size + 1]) (hr3.cell (i := 0) rfl) (by simp; omega)
      have q1 := Dr.cls_cell (M := [w.heap.size + 1]) (hr3.cell (i := 1) rfl) (by simp; omega)
      refine Dr.plan_q (l := [_, _, _, _, _, _, _, _, _, _, _, _]) rfl (fun K hK => ?_)
      iterate 12 (go_big_quiet_step (fail))
      refine wpQuiet_nil (hK _ ?_); clear hK K
      clear q0 q1 hr3
      have ha8 : a < 8 := by omega
      have hc8 : c < 8 := by omega
      obtain ⟨W3, hu, hp4, hg4⟩ := hp3.put (p := (a, c)) ha8 hc8
      change (Instr.mapUpdate 138 (.map (some (w.heap.size + 1))) (.agg #[.int .i64 (a : Int), .int .i64 (c : Int)]) (.bool true)).run Try.prog W2 = .ok () W3 at hu
      have hb4 := below_grown hb3 hg4 (by omega)
      refine Dr.plan_e rfl (by rfl) (fun K hK => ?_)
      go_wp2_with fail
      refine hK _ _ (bel_grown hg4 (by simp)) ?_; clear hK K
      clear hu hp3 hg4
      obtain ⟨W5, hu, hp5, hg5⟩ := hp4.put (p := (c, a)) hc8 ha8
      change (Instr.mapUpdate 138 (.map (some (w.heap.size + 1))) (.agg #[.int .i64 (c : Int), .int .i64 (a : Int)]) (.bool true)).run Try.prog W3 = .ok () W5 at hu
      have hb5 := below_grown hb4 hg5 (by omega)
      refine Dr.plan_done (tl := [_]) rfl ?_
      go_wp2
      go_roundw
      case rel => exact ⟨k + 1, by go_num, by omega, by rw [Hnx.out, Hac.out.1, Hac.out.2]; exact hp5, hb5⟩
      case measure => simp [intOf]; omega
    · obtain rfl : k = n3 := by omega
      have ht : l.take k = l := List.take_of_length_le (by rw [H3.out]; omega)
      have Ht := Lib.hid ht
      clear ht
      go_wp2
      go_ret
      exact ⟨_, rfl, by omega, by rw [Ht.out] at hp; exact hp, hb⟩
end Go.Proofs.Ytopfhinnamhoiaa

/- Walk: free, an iterator over the boxes in which the next animal fits. -/
namespace Go.Proofs.Ytopfhinnamhoiaa
open Go.RowKit Go.Bs Go.Yd Go.Pl Go.Sort

/-- is one of the animals in the way of the next one, number i, in box p? -/
def clash (ps : List (Nat × Nat)) (i : Nat) (p : Int) : Nat → List Int → Bool
  | _, [] => false
  | j, q :: r => ((q == p) || (decide (-1 ≤ wrap64 (q - p) ∧ wrap64 (q - p) ≤ 1) && decide ((i, j) ∈ ps))) || clash ps i p (j + 1) r
def fits (y : Yrd) (ps : List (Nat × Nat)) (at_ : List Int) (p : Nat) : Bool := decide (y.needs.getD at_.length 0 ≤ y.boxes.getD p 0) && !clash ps at_.length p 0 at_
def freeIx (f : Nat → Bool) (n : Nat) : (k : Nat) → k ≤ n → List (Ix n)
  | 0, _ => []
  | k + 1, h => if f k then freeIx f n k (by omega) ++ [⟨k, by omega⟩] else freeIx f n k (by omega)
theorem freeIx_len (f : Nat → Bool) (n : Nat) : ∀ k h, (freeIx f n k h).length ≤ k
  | 0, _ => by simp [freeIx]
  | k + 1, h => by
    unfold freeIx
    have := freeIx_len f n k (by omega)
    split
    · simp; omega
    · omega

/-- What the iterator reads. s: its box of the yard, the map, the places, the number. -/
structure ItAt (y : Yrd) (A1 A2 A3 V : Option Addr) (n1 n2 n3 c1 c2 c3 m cm bm s : Nat) (ps : List (Nat × Nat)) (at_ : List Int) (W : World) : Prop where
  x0 : W.cell? ⟨s, 0, none⟩ = some (.slice A1 n1 c1)
  x1 : W.cell? ⟨s, 1, none⟩ = some (.slice A2 n2 c2)
  x4 : W.cell? ⟨s + 1, 0, none⟩ = some (.map (some bm))
  x5 : W.cell? ⟨s + 2, 0, none⟩ = some (.slice V m cm)
  x7 : W.cell? ⟨s + 3, 0, none⟩ = some (.int .i64 (m : Int))
  b : Cells W A1 1 encI y.boxes
  n : Cells W A2 1 encI y.needs
  a : Cells W V 1 encI at_
  p : PMap W bm ps
section
variable {y : Yrd} {A1 A2 A3 V : Option Addr} {n1 n2 n3 c1 c2 c3 m cm bm s : Nat} {ps : List (Nat × Nat)} {at_ : List Int} {W W' : World}
theorem ItAt.ext (h : ItAt y A1 A2 A3 V n1 n2 n3 c1 c2 c3 m cm bm s ps at_ W) (hb : Below W.heap.size W W') : ItAt y A1 A2 A3 V n1 n2 n3 c1 c2 c3 m cm bm s ps at_ W' :=
  ⟨cell_ext h.x0 hb, cell_ext h.x1 hb, cell_ext h.x4 hb, cell_ext h.x5 hb, cell_ext h.x7 hb, h.b.ext hb, h.n.ext hb, h.a.ext hb, h.p.ext hb⟩
theorem ItAt.put {B : Nat} {o o' : Obj} {l : Nat} (h : ItAt y A1 A2 A3 V n1 n2 n3 c1 c2 c3 m cm bm s ps at_ W) (hl : B ≤ l) (ho : W.heap[l]? = some o) (hc : o.isCells = false) (hbm : bm < B) : ItAt y A1 A2 A3 V n1 n2 n3 c1 c2 c3 m cm bm s ps at_ (W.putObj l o') := by
  have hg := grownBy_putObj' W l o'
  have key : ∀ (p : Addr) (v : Value), W.cell? p = some v → (W.putObj l o').cell? p = some v := fun p v hv => cell_kept hv hg (fun r e => by cases e; exact ⟨o, ho, hc⟩)
  have keyC : ∀ {α : Type} {sz : Nat} {enc : α → List Value} {L : List α} {A : Option Addr}, Cells W A sz enc L → Cells (W.putObj l o') A sz enc L := fun hC i x hi => by
    obtain ⟨b, off, hA, hcl⟩ := hC i x hi
    exact ⟨b, off, hA, fun j v hj => key _ _ (hcl j v hj)⟩
  refine ⟨key _ _ h.x0, key _ _ h.x1, key _ _ h.x4, key _ _ h.x5, key _ _ h.x7, keyC h.b, keyC h.n, keyC h.a, h.p.same (hg.block bm h.p.lt (fun e => by cases e; omega))⟩
end

set_option maxRecDepth 100000 in
theorem free_any (_y : Yrd) (A1 A2 A3 V : Option Addr) (n1 n2 n3 c1 c2 c3 m cm bm : Nat) (w : World) :
    Calls Try.prog 85 #[.agg #[.slice A1 n1 c1, .slice A2 n2 c2, .slice A3 n3 c3], .map (some bm), .slice V m cm] w fun e w' =>
      e = .returned (.func (.func 112) #[] #[.pointer (some ⟨w.heap.size, 0, none⟩), .pointer (some ⟨w.heap.size + 3, 0, none⟩), .pointer (some ⟨w.heap.size + 2, 0, none⟩), .pointer (some ⟨w.heap.size + 1, 0, none⟩)]) ∧
      w' = (((w.alloc (.cells #[.slice A1 n1 c1, .slice A2 n2 c2, .slice A3 n3 c3] 61)).alloc (.cells #[.map (some bm)] 138)).alloc (.cells #[.slice V m cm] 24)).alloc (.cells #[.int .i64 (m : Int)] 3) := by
  go_enter Try.func85, Try.ntmps85
  go_wp2
  go_ret
  exact ⟨rfl, rfl⟩

section
attribute [local go_sem] Oper.semAt_some
set_option maxRecDepth 100000 in
set_option maxHeartbeats 4000000 in
theorem free1_in (y : Yrd) (A1 A2 A3 V : Option Addr) (n1 n2 n3 c1 c2 c3 m cm bm s : Nat) (ps : List (Nat × Nat)) (at_ : List Int) (d l : Nat) (hd : 1 ≤ d)
    (hn1 : y.boxes.length = n1) (hn2 : y.needs.length = n2) (hm : at_.length = m) (hmn : m < n2) (h8 : n2 ≤ 8) (h81 : n1 ≤ 1000) (_hcn : n2 ≤ c2)
    (J Jx : List (Ix n1) → World → Prop)
    (hY : ∀ pre x W, J pre W → pre.length < n1 → YieldAt Fence.wide (d - 1) Try.prog l #[.int .i64 (x.1 : Int)] W fun e W' =>
      (e = .returned (.bool true) ∧ J (pre ++ [x]) W' ∧ (ItAt y A1 A2 A3 V n1 n2 n3 c1 c2 c3 m cm bm s ps at_ W → ItAt y A1 A2 A3 V n1 n2 n3 c1 c2 c3 m cm bm s ps at_ W')) ∨ (e = .returned (.bool false) ∧ Jx (pre ++ [x]) W'))
    (W : World) (hI : ItAt y A1 A2 A3 V n1 n2 n3 c1 c2 c3 m cm bm s ps at_ W) (h0 : J [] W) :
    CallsIn Fence.wide d Try.prog 112 #[.func (.yield l) #[] #[], .pointer (some ⟨s, 0, none⟩), .pointer (some ⟨s + 3, 0, none⟩), .pointer (some ⟨s + 2, 0, none⟩), .pointer (some ⟨s + 1, 0, none⟩)] W fun e W' => (∃ v, e = .returned v) ∧
      ((∃ ys, ys = freeIx (fits y ps at_) n1 n1 (Nat.le_refl _) ∧ J ys W') ∨ (∃ pre, (∃ k, ∃ h : k ≤ n1, pre = freeIx (fits y ps at_) n1 k h) ∧ Jx pre W')) := by
  refine callsIn_of_wp Try.func112 rfl trivial ?_ rfl
  simp only [Try.ntmps112, List.size_toArray, List.length_cons, List.length_nil, Nat.reduceAdd, Nat.reduceSub, Array.replicate_succ, Array.replicate_zero, List.push_toArray, List.append_toArray, List.nil_append, List.cons_append]
  have x0 := hI.x0
  refine wpIn_scope_straight ?_
  gi_wp2
  refine wpIn_label ?_
  gi_wp2
  gi_loopw [13] (fun x wr => ∃ k : Nat, ∃ h : k ≤ n1, x = .int .i64 k ∧ J (freeIx (fits y ps at_) n1 k h) wr ∧ ItAt y A1 A2 A3 V n1 n2 n3 c1 c2 c3 m cm bm s ps at_ wr) (fun x _ => n1 - (intOf x).toNat)
  case atStart => exact ⟨0, by omega, rfl, h0, hI⟩
  case round =>
    clear hI h0 x0
    obtain ⟨k, hk, rfl, hJ, hI⟩ := hrel
    by_cases hlt : k < n1
    · have hlt' : (k : Int) < n1 := by omega
      have hk0 : (0 : Int) ≤ k := by omega
      have hm0 : (0 : Int) ≤ m := by omega
      have hm1 : (m : Int) < n2 := by omega
      obtain ⟨b, off, rfl, -, d0⟩ := hI.b.at1 (k := k) (by omega) rfl
      obtain ⟨b2, off2, rfl, -, d1⟩ := hI.n.at1 (k := m) (by omega) rfl
      have hnx : freeIx (fits y ps at_) n1 (k + 1) hlt = if fits y ps at_ k then freeIx (fits y ps at_) n1 k hk ++ [⟨k, hlt⟩] else freeIx (fits y ps at_) n1 k hk := rfl
      have hfit : fits y ps at_ k = (decide (y.needs[m] ≤ y.boxes[k]) && !clash ps m k 0 at_) := by
        unfold fits
        rw [hm]
        simp [hn1, hn2, hlt, hmn]
      have Hnx := Lib.hid hnx
      have Hfit := Lib.hid hfit
      clear hnx hfit
      generalize y.needs[m] = nd at *
      generalize y.boxes[k] = bx at *
      have x1 := hI.x1
      have x4 := hI.x4
      have x5 := hI.x5
      have x7 := hI.x7
      by_cases hsm : bx < nd
      · have hf : fits y ps at_ k = false := by rw [Hfit.out, decide_eq_false (by omega)]; rfl
        have Hf := Lib.hid hf
        clear hf
        gi_wp2
        go_roundw
        case rel => exact ⟨k + 1, hlt, by go_num, by rw [Hnx.out, Hf.out]; exact hJ, hI⟩
        case measure => simp [intOf]; omega
      · have hsm' : nd ≤ bx := by omega
        have hf : fits y ps at_ k = !clash ps m k 0 at_ := by rw [Hfit.out, decide_eq_true hsm']; rfl
        have Hf := Lib.hid hf
        clear hf
        gi_wp2
        generalize hcl : clash ps m k 0 at_ = res at *
        have Hcl := Lib.hid (show clash ps m k 0 (at_.drop 0) = res by rw [List.drop_zero]; exact hcl)
        clear hcl
        gi_loopw [27] (fun x wr' => ∃ j : Nat, x = .int .i64 j ∧ j ≤ m ∧ wr' = wr ∧ Hid (clash ps m k j (at_.drop j) = res)) (fun x _ => m - (intOf x).toNat)
        case atStart => exact ⟨0, rfl, by omega, rfl, Hcl⟩
        case round =>
          obtain ⟨j, rfl, hj, rfl, Hj⟩ := hrel
          by_cases hjm : j < m
          · have hjm' : (j : Int) < m := by omega
            have hj0 : (0 : Int) ≤ j := by omega
            have hja : j < at_.length := by rw [hm]; exact hjm
            obtain ⟨b3, off3, rfl, -, e0⟩ := hI.a.at1 (k := j) hja rfl
            have hst : clash ps m k j (at_.drop j) = (((at_[j] == (k : Int)) || (decide (-1 ≤ wrap64 (at_[j] - k) ∧ wrap64 (at_[j] - k) ≤ 1) && decide ((m, j) ∈ ps))) || clash ps m k (j + 1) (at_.drop (j + 1))) := by
              rw [List.drop_eq_getElem_cons hja]; rfl
            have hlk := hI.p.look (p := (m, j)) (by omega) (by simp; omega)
            change (Instr.lookup 138 (.map (some bm)) (.agg #[.int .i64 (m : Int), .int .i64 (j : Int)]) false).run Try.prog wr = .ok (.bool (decide ((m, j) ∈ ps))) wr at hlk
            have Hst := Lib.hid hst
            have Hlk := Lib.hid hlk
            clear hst hlk
            generalize at_[j] = q at *
            generalize decide ((m, j) ∈ ps) = r at *
            cases hqk : (q == (k : Int))
            · by_cases hw : -1 ≤ wrap64 (q - k) ∧ wrap64 (q - k) ≤ 1
              · have hlk := Hlk.out
                have C1 := Lib.hid (within_t hw)
                have hst2 : clash ps m k j (at_.drop j) = (r || clash ps m k (j + 1) (at_.drop (j + 1))) := by rw [Hst.out, hqk, decide_eq_true hw]; rfl
                have Hst2 := Lib.hid hst2
                clear hw hst2
                cases r
                · have Hn := Lib.hid (show clash ps m k (j + 1) (at_.drop (j + 1)) = res by rw [← Hj.out, Hst2.out]; rfl)
                  gi_wp2_with fail
                  refine ⟨trivial, (callsIn_wide.2 (C1.out _)).mono ?_⟩; rintro e w1 ⟨rfl, rfl⟩
                  gi_wp2
                  go_roundw
                  case rel => exact ⟨j + 1, by go_num, by omega, trivial, Hn⟩
                  case measure => simp [intOf]; omega
                · have hr : res = true := by rw [← Hj.out, Hst2.out]; rfl
                  have Hr := Lib.hid hr
                  clear hr
                  gi_wp2_with fail
                  refine ⟨trivial, (callsIn_wide.2 (C1.out _)).mono ?_⟩; rintro e w1 ⟨rfl, rfl⟩
                  gi_wp2
                  refine ⟨⟨k + 1, hlt, by go_num, by rw [Hnx.out, Hf.out, Hr.out]; exact hJ, hI⟩, ?_⟩
                  simp [intOf]; omega
              · have C1 := Lib.hid (within_f hw)
                have hst2 : clash ps m k j (at_.drop j) = clash ps m k (j + 1) (at_.drop (j + 1)) := by rw [Hst.out, hqk, decide_eq_false hw]; rfl
                have Hn := Lib.hid (show clash ps m k (j + 1) (at_.drop (j + 1)) = res by rw [← Hj.out, hst2])
                clear hw hst2
                gi_wp2_with fail
                refine ⟨trivial, (callsIn_wide.2 (C1.out _)).mono ?_⟩; rintro e w1 ⟨rfl, rfl⟩
                gi_wp2
                go_roundw
                case rel => exact ⟨j + 1, by go_num, by omega, trivial, Hn⟩
                case measure => simp [intOf]; omega
            · have hr : res = true := by rw [← Hj.out, Hst.out, hqk]; rfl
              have Hr := Lib.hid hr
              clear hr
              gi_wp2
              refine ⟨trivial, ?_⟩
              gi_wp2
              refine ⟨⟨k + 1, hlt, by go_num, by rw [Hnx.out, Hf.out, Hr.out]; exact hJ, hI⟩, ?_⟩
              simp [intOf]; omega
          · have hr : res = false := by rw [← Hj.out, show at_.drop j = [] from List.drop_of_length_le (by omega)]; rfl
            have Hr := Lib.hid hr
            clear hr
            obtain ⟨fn, tmps, assign, body, hy, hR⟩ := hY _ ⟨k, hlt⟩ wr hJ (by have := freeIx_len (fits y ps at_) n1 k hk; omega)
            have hnx2 : freeIx (fits y ps at_) n1 (k + 1) hlt = freeIx (fits y ps at_) n1 k hk ++ [⟨k, hlt⟩] := by rw [Hnx.out, Hf.out, Hr.out]; rfl
            have Hnx2 := Lib.hid hnx2
            clear hnx2
            gi_wp2
            refine hR.mono ?_
            rintro e W3 (⟨rfl, hJ3, hk3⟩ | ⟨rfl, hJx3⟩)
            · have hI3 := hk3 hI
              gi_wp2
              refine ⟨⟨k + 1, hlt, by go_num, by rw [Hnx2.out]; exact hJ3, hI3⟩, ?_⟩
              simp [intOf]; omega
            · gi_wp2
              simp only [Exit.noGoto]
              refine bodyPost_ret (results_none rfl _ _ _) rfl ?_
              exact ⟨⟨_, rfl⟩, .inr ⟨_, ⟨k + 1, hlt, Hnx2.out.symm⟩, hJx3⟩⟩
    · obtain rfl : k = n1 := by omega
      gi_wp2
      simp only [Exit.noGoto]
      go_end0
      exact ⟨⟨_, rfl⟩, .inl ⟨_, rfl, hJ⟩⟩
end
end Go.Proofs.Ytopfhinnamhoiaa

/- Walk: slices.Clone, list, ints. -/
namespace Go.Proofs.Ytopfhinnamhoiaa
open Go.RowKit Go.Bs Go.Yd Go.Pl Go.Sort

theorem own_empty (w : World) (T : TypeId) : OwnL (w.alloc (.cells #[] T)) w.heap.size T 1 encI (.slice (some ⟨w.heap.size, 0, none⟩) 0 0) ([] : List Int) :=
  ⟨by simp, .inr ⟨w.heap.size, 0, #[], rfl, Nat.le_refl _, by show (w.heap.push _)[w.heap.size]? = _; rw [Array.getElem?_push, if_pos rfl], Nat.le_refl _, by omega, by simp, by simp⟩⟩

set_option maxRecDepth 100000 in
theorem clone_any (A : Option Addr) (n c : Nat) (l : List Int) (w : World) (hn : l.length = n) (hm : n ≤ 1000000000) (hd : Cells w A 1 encI l) :
    Calls Try.prog 109 #[.slice A n c] w fun e w' => ∃ v, e = .returned v ∧ FreshL w w' 1 encI v l ∧ Below w.heap.size w w' := by
  have q22 : ∀ (w : World) (a : Option Addr) (n c n' c' : Nat), (binOp .eql 24 (.slice a n c) (.slice none n' c')).run Try.prog w = .ok (.bool a.isNone) w := fun w a n c n' c' => Lib.run_eql_slice_nil w _ _ a n c n' c' Try.underlying24
  cases A with
  | none =>
    have hl : l = [] := by
      cases l with
      | nil => rfl
      | cons x l => obtain ⟨b, off, e, _⟩ := hd 0 x rfl; cases e
    subst hl
    go_enter Try.func109, Try.ntmps109
    go_wp2_with fail
    go_ret
    exact ⟨_, rfl, FreshL.nil _ _ _ _, Below.refl _ _⟩
  | some a =>
    have hd1 := hd.ext (ext_alloc w (.cells #[] 3))
    have ho := own_empty w 3
    clear hd
    go_enter Try.func109, Try.ntmps109
    go_wp2_with (at_builtin; refine app_ints 24 3 et24 rfl _ _ rfl w.heap.size _ [] rfl ho (some a) n c l hn rfl hd1 (by simp; omega) (by simp) ?_; intro v' w' hown hb _ _)
    go_ret
    exact ⟨_, rfl, FreshL.of_own hown encI_len (Nat.le_refl _), (ext_alloc _ _).trans hb⟩

theorem list_any (A : Option Addr) (n c : Nat) (l : List Int) (w : World) (hn : l.length = n) (hm : n ≤ 1000000000) (hd : Cells w A 1 encI l) :
    Calls Try.prog 19 #[.slice A n c] w fun e w' => ∃ v, e = .returned v ∧ FreshL w w' 1 encI v l ∧ Below w.heap.size w w' := by
  have hd1 := hd.ext (ext_alloc w (.cells #[] 3))
  have ho := own_empty w 3
  clear hd
  go_enter Try.func19, Try.ntmps19
  go_wp2_with (at_builtin; refine app_ints 24 3 et24 rfl _ _ rfl w.heap.size _ [] rfl ho A n c l hn rfl hd1 (by simp; omega) (by simp) ?_; intro v' w' hown hb _ _)
  go_ret
  exact ⟨_, rfl, FreshL.of_own hown encI_len (Nat.le_refl _), (ext_alloc _ _).trans hb⟩
end Go.Proofs.Ytopfhinnamhoiaa

/- Walk: the closure of stand, that calls itself. -/
namespace Go.Proofs.Ytopfhinnamhoiaa
open Go.RowKit Go.Bs Go.Yd Go.Pl Go.Sort

/-- the first arrangement that goes on from at_, of m more animals -/
def standR (y : Yrd) (ps : List (Nat × Nat)) (n1 : Nat) : Nat → List Int → Option (List Int)
  | 0, at_ => some at_
  | m + 1, at_ => (freeIx (fits y ps at_) n1 n1 (Nat.le_refl _)).findSome? fun p => standR y ps n1 m (at_ ++ [(p.1 : Int)])

structure EnvS (y : Yrd) (A1 A2 A3 : Option Addr) (n1 n2 n3 c1 c2 c3 b1 b4 b5 bm : Nat) (ps : List (Nat × Nat)) (W : World) : Prop where
  k1 : Blk W b1 61 [.slice A1 n1 c1, .slice A2 n2 c2, .slice A3 n3 c3]
  k4 : Blk W b4 138 [.map (some bm)]
  k5 : Blk W b5 164 [.func (.func 108) #[] #[.pointer (some ⟨b1, 0, none⟩), .pointer (some ⟨b4, 0, none⟩), .pointer (some ⟨b5, 0, none⟩)]]
  yd : YdAt W y A1 A2 A3
  pm : PMap W bm ps
theorem EnvS.ext {y : Yrd} {A1 A2 A3 : Option Addr} {n1 n2 n3 c1 c2 c3 b1 b4 b5 bm : Nat} {ps : List (Nat × Nat)} {W W' : World} (h : EnvS y A1 A2 A3 n1 n2 n3 c1 c2 c3 b1 b4 b5 bm ps W) (hb : Below W.heap.size W W') : EnvS y A1 A2 A3 n1 n2 n3 c1 c2 c3 b1 b4 b5 bm ps W' :=
  ⟨h.k1.ext hb, h.k4.ext hb, h.k5.ext hb, h.yd.ext hb, h.pm.ext hb⟩

def StPost (N0 : Nat) (R : Option (List Int)) (v : Value) (at_ : List Int) (W : World) (e : Ending) (W' : World) : Prop :=
  ∃ r, e = .returned (.tuple #[r, .bool R.isSome]) ∧ W.grownBy W' v.ownBlock ∧ OwnL W' N0 3 1 encI v at_ ∧ FreshL W W' 1 encI r (R.getD [])
theorem grown_b {W W' : World} (h : Below W.heap.size W W') (row : Option Nat) : W.grownBy W' row := ⟨h.os, h.tape, h.output, h.size, fun k hk _ => h.block k hk⟩

theorem freeIx_pre (f : Nat → Bool) (n : Nat) : ∀ (d k : Nat) (h : k ≤ n) (h2 : k + d ≤ n), ∃ r, freeIx f n (k + d) h2 = freeIx f n k h ++ r
  | 0, k, h, _ => ⟨[], by simp⟩
  | d + 1, k, h, h2 => by
    obtain ⟨r, hr⟩ := freeIx_pre f n d k h (by omega)
    have hlt : k + d < n := by omega
    have e : freeIx f n (k + (d + 1)) h2 = if f (k + d) then freeIx f n (k + d) (by omega) ++ [⟨k + d, hlt⟩] else freeIx f n (k + d) (by omega) := rfl
    rw [e]
    split
    · exact ⟨r ++ [⟨k + d, hlt⟩], by rw [hr, List.append_assoc]⟩
    · exact ⟨r, hr⟩
theorem standR_none {y : Yrd} {ps : List (Nat × Nat)} {n1 m : Nat} {at_ : List Int} (h : ∀ x ∈ freeIx (fits y ps at_) n1 n1 (Nat.le_refl _), standR y ps n1 m (at_ ++ [(x.1 : Int)]) = none) : standR y ps n1 (m + 1) at_ = none := by
  unfold standR
  exact List.findSome?_eq_none_iff.2 h
theorem standR_some {y : Yrd} {ps : List (Nat × Nat)} {n1 m k : Nat} {at_ : List Int} {pre : List (Ix n1)} {x : Ix n1} (hk : k ≤ n1) (hp : freeIx (fits y ps at_) n1 k hk = pre ++ [x]) (h : ∀ x ∈ pre, standR y ps n1 m (at_ ++ [(x.1 : Int)]) = none)
    (hx : (standR y ps n1 m (at_ ++ [(x.1 : Int)])).isSome = true) : standR y ps n1 (m + 1) at_ = standR y ps n1 m (at_ ++ [(x.1 : Int)]) := by
  obtain ⟨r, hr⟩ := freeIx_pre (fits y ps at_) n1 (n1 - k) k hk (by omega)
  have hr2 : freeIx (fits y ps at_) n1 n1 (Nat.le_refl _) = pre ++ [x] ++ r := by
    rw [← hp, ← hr]; congr 1; omega
  have hs : standR y ps n1 (m + 1) at_ = (freeIx (fits y ps at_) n1 n1 (Nat.le_refl _)).findSome? fun p => standR y ps n1 m (at_ ++ [(p.1 : Int)]) := rfl
  obtain ⟨res, hres⟩ := Option.isSome_iff_exists.1 hx
  rw [hs, hr2, List.append_assoc, List.findSome?_append, List.findSome?_eq_none_iff.2 h]
  simp [hres]

theorem grown_step {W X Y : World} {r1 row : Option Nat} (h : W.grownBy X r1) (hg : X.grownBy Y row) (hr : ∀ b, row = some b → r1 = some b ∨ W.heap.size ≤ b) : W.grownBy Y r1 :=
  ⟨hg.os.trans h.os, hg.tape.trans h.tape, hg.output.trans h.output, Nat.le_trans h.size hg.size, fun k hk hne => by
    refine (hg.block k (Nat.lt_of_lt_of_le hk h.size) (fun e => ?_)).trans (h.block k hk hne)
    rcases hr k e.symm with h1 | h1
    · exact hne h1.symm
    · omega⟩
/-- What stands in memory between two rounds. -/
structure StI (W : World) (N0 : Nat) (v : Value) (at_ : List Int) (A1 A2 A3 : Option Addr) (n1 n2 n3 c1 c2 c3 bm q : Nat) (X : World) : Prop where
  gr : W.grownBy X v.ownBlock
  own : OwnL X N0 3 1 encI v at_
  k4 : Blk X W.heap.size 24 [v]
  k5 : Blk X (W.heap.size + 1) 24 [.slice none 0 0]
  k6 : Blk X (W.heap.size + 2) 4 [.bool false]
  B0 : Blk X (W.heap.size + 3) 61 [.slice A1 n1 c1, .slice A2 n2 c2, .slice A3 n3 c3]
  B1 : Blk X (W.heap.size + 3 + 1) 138 [.map (some bm)]
  B2 : Blk X (W.heap.size + 3 + 2) 24 [v]
  B3 : Blk X (W.heap.size + 3 + 3) 3 [.int .i64 (q : Int)]
theorem StI.turn {W : World} {N0 : Nat} {v : Value} {at_ : List Int} {A1 A2 A3 : Option Addr} {n1 n2 n3 c1 c2 c3 bm q : Nat} {X Y : World} {row : Option Nat} (h : StI W N0 v at_ A1 A2 A3 n1 n2 n3 c1 c2 c3 bm q X) (hv : ∀ b, v.ownBlock = some b → b < W.heap.size)
    (hg : X.grownBy Y row) (hr : ∀ b, row = some b → v.ownBlock = some b ∨ W.heap.size + 7 ≤ b) (ho : OwnL Y N0 3 1 encI v at_) : StI W N0 v at_ A1 A2 A3 n1 n2 n3 c1 c2 c3 bm q Y := by
  have key : ∀ {B T : Nat} {cs : List Value}, Blk X B T cs → W.heap.size ≤ B → B < W.heap.size + 7 → Blk Y B T cs := fun {B T cs} hB h1 h2 => (hg.block B hB.lt (fun e => by
    rcases hr B e.symm with h3 | h3
    · have := hv B h3; omega
    · omega)).trans hB
  exact ⟨grown_step h.gr hg (fun b e => (hr b e).imp id (fun h => by omega)), ho, key h.k4 (by omega) (by omega), key h.k5 (by omega) (by omega), key h.k6 (by omega) (by omega), key h.B0 (by omega) (by omega), key h.B1 (by omega) (by omega), key h.B2 (by omega) (by omega), key h.B3 (by omega) (by omega)⟩
theorem StI.it {y : Yrd} {ps : List (Nat × Nat)} {b1 b4 b5 : Nat} {W : World} {N0 : Nat} {V : Option Addr} {cm : Nat} {at_ : List Int} {A1 A2 A3 : Option Addr} {n1 n2 n3 c1 c2 c3 bm q : Nat} {X : World} (_hq : at_.length = q) (h : StI W N0 (.slice V q cm) at_ A1 A2 A3 n1 n2 n3 c1 c2 c3 bm q X)
    (hE : EnvS y A1 A2 A3 n1 n2 n3 c1 c2 c3 b1 b4 b5 bm ps X) : ItAt y A1 A2 A3 V n1 n2 n3 c1 c2 c3 q cm bm (W.heap.size + 3) ps at_ X := by
  obtain ⟨A, c, e, _, _, hc⟩ := h.own.cells encI_len
  simp only [Value.slice.injEq] at e
  obtain ⟨rfl, -, -⟩ := e
  exact ⟨h.B0.cell rfl, h.B0.cell rfl, h.B1.cell rfl, h.B2.cell rfl, h.B3.cell rfl, hE.yd.b, hE.yd.n, hc, hE.pm⟩
theorem StI.below {W00 W : World} {v : Value} {at_ : List Int} {A1 A2 A3 : Option Addr} {n1 n2 n3 c1 c2 c3 bm q : Nat} {X : World} (hW : Below W00.heap.size W00 W) (h : StI W W00.heap.size v at_ A1 A2 A3 n1 n2 n3 c1 c2 c3 bm q X) : Below W00.heap.size W00 X :=
  hW.grown h.gr hW.size (fun _ hk => (h.own.lt hk).1)
theorem StI.start {W : World} {N0 : Nat} {v : Value} {at_ : List Int} (A1 A2 A3 : Option Addr) (n1 n2 n3 c1 c2 c3 bm q : Nat) (hv : OwnL W N0 3 1 encI v at_) : StI W N0 v at_ A1 A2 A3 n1 n2 n3 c1 c2 c3 bm q
    (((((((W.alloc (.cells #[v] 24)).alloc (.cells #[.slice none 0 0] 24)).alloc (.cells #[.bool false] 4)).alloc (.cells #[.slice A1 n1 c1, .slice A2 n2 c2, .slice A3 n3 c3] 61)).alloc (.cells #[.map (some bm)] 138)).alloc (.cells #[v] 24)).alloc (.cells #[.int .i64 (q : Int)] 3)) := by
  have hb : Below W.heap.size W (((((((W.alloc (.cells #[v] 24)).alloc (.cells #[.slice none 0 0] 24)).alloc (.cells #[.bool false] 4)).alloc (.cells #[.slice A1 n1 c1, .slice A2 n2 c2, .slice A3 n3 c3] 61)).alloc (.cells #[.map (some bm)] 138)).alloc (.cells #[v] 24)).alloc (.cells #[.int .i64 (q : Int)] 3)) :=
    ((((((Below.refl _ _).alloc (Nat.le_refl _) _).alloc (by simp) _).alloc (by simp; omega) _).alloc (by simp; omega) _).alloc (by simp; omega) _).alloc (by simp; omega) _ |>.alloc (by simp; omega) _
  have n1' := Blk.new W 24 [v]
  have n2' := Blk.new (W.alloc (.cells #[v] 24)) 24 [.slice none 0 0]
  have n3' := Blk.new ((W.alloc (.cells #[v] 24)).alloc (.cells #[.slice none 0 0] 24)) 4 [.bool false]
  have n4' := Blk.new (((W.alloc (.cells #[v] 24)).alloc (.cells #[.slice none 0 0] 24)).alloc (.cells #[.bool false] 4)) 61 [.slice A1 n1 c1, .slice A2 n2 c2, .slice A3 n3 c3]
  have n5' := Blk.new ((((W.alloc (.cells #[v] 24)).alloc (.cells #[.slice none 0 0] 24)).alloc (.cells #[.bool false] 4)).alloc (.cells #[.slice A1 n1 c1, .slice A2 n2 c2, .slice A3 n3 c3] 61)) 138 [.map (some bm)]
  have n6' := Blk.new (((((W.alloc (.cells #[v] 24)).alloc (.cells #[.slice none 0 0] 24)).alloc (.cells #[.bool false] 4)).alloc (.cells #[.slice A1 n1 c1, .slice A2 n2 c2, .slice A3 n3 c3] 61)).alloc (.cells #[.map (some bm)] 138)) 24 [v]
  have n7' := Blk.new ((((((W.alloc (.cells #[v] 24)).alloc (.cells #[.slice none 0 0] 24)).alloc (.cells #[.bool false] 4)).alloc (.cells #[.slice A1 n1 c1, .slice A2 n2 c2, .slice A3 n3 c3] 61)).alloc (.cells #[.map (some bm)] 138)).alloc (.cells #[v] 24)) 3 [.int .i64 (q : Int)]
  simp only [World.size_alloc] at n2' n3' n4' n5' n6' n7'
  exact ⟨grown_b hb _, hv.ext hb, (((((n1'.alloc _).alloc _).alloc _).alloc _).alloc _).alloc _, ((((n2'.alloc _).alloc _).alloc _).alloc _).alloc _, (((n3'.alloc _).alloc _).alloc _).alloc _, ((n4'.alloc _).alloc _).alloc _, (n5'.alloc _).alloc _, n6'.alloc _, n7'⟩

attribute [local go_sem] run_store_func run_store_map Oper.semAt_some
set_option maxRecDepth 100000 in
set_option maxHeartbeats 4000000 in
theorem stand1_any (y : Yrd) (A1 A2 A3 : Option Addr) (n1 n2 n3 c1 c2 c3 b1 b4 b5 bm : Nat) (ps : List (Nat × Nat)) (W00 : World) (hE : EnvS y A1 A2 A3 n1 n2 n3 c1 c2 c3 b1 b4 b5 bm ps W00)
    (hn1 : y.boxes.length = n1) (hn2 : y.needs.length = n2) (h81 : n1 ≤ 1000) (h8 : n2 ≤ 8) (hc2 : n2 ≤ c2) : ∀ (m : Nat) (at_ : List Int) (v : Value) (W : World), at_.length + m = n2 → Below W00.heap.size W00 W → OwnL W W00.heap.size 3 1 encI v at_ →
    Calls Try.prog 108 #[v, .pointer (some ⟨b1, 0, none⟩), .pointer (some ⟨b4, 0, none⟩), .pointer (some ⟨b5, 0, none⟩)] W (StPost W00.heap.size (standR y ps n1 m at_) v at_ W) := by
  intro m
  induction m with
  | zero =>
    intro at_ v W hm hW hv
    obtain ⟨V, cm, rfl, hcm, hcx, hcl⟩ := hv.cells encI_len
    have hE1 := hE.ext hW
    have hm' : at_.length = n2 := by omega
    rw [hm'] at hv hcm
    have hb0 : Below W.heap.size W (((W.alloc (.cells #[.slice V n2 cm] 24)).alloc (.cells #[.slice none 0 0] 24)).alloc (.cells #[.bool false] 4)) := (((Below.refl _ _).alloc (Nat.le_refl _) _).alloc (by simp) _).alloc (by simp; omega) _
    have hv2 := hv.ext hb0
    have hc2 := hcl.ext hb0
    have k5 : Blk (((W.alloc (.cells #[.slice V n2 cm] 24)).alloc (.cells #[.slice none 0 0] 24)).alloc (.cells #[.bool false] 4)) (W.heap.size + 1) 24 [.slice none 0 0] := by
      have := (Blk.new (W.alloc (.cells #[.slice V n2 cm] 24)) 24 [.slice none 0 0]).alloc (.cells #[.bool false] 4)
      simpa using this
    have k6 : Blk (((W.alloc (.cells #[.slice V n2 cm] 24)).alloc (.cells #[.slice none 0 0] 24)).alloc (.cells #[.bool false] 4)) (W.heap.size + 2) 4 [.bool false] := by
      have := Blk.new ((W.alloc (.cells #[.slice V n2 cm] 24)).alloc (.cells #[.slice none 0 0] 24)) 4 [.bool false]
      simpa using this
    rw [hm']
    refine (callsIn_wide (n := 40)).1 (callsIn_of_wp_marks Try.func108 rfl trivial ?_)
    simp only [Try.ntmps108, List.size_toArray, List.length_cons, List.length_nil, Nat.reduceAdd, Nat.reduceSub, Array.replicate_succ, Array.replicate_zero, List.push_toArray, List.append_toArray, List.nil_append, List.cons_append]
    refine wpIn_wide.2 ?_
    go_upto_region 1 with fail
    have k4 : Blk (((W.alloc (.cells #[.slice V n2 cm] 24)).alloc (.cells #[.slice none 0 0] 24)).alloc (.cells #[.bool false] 4)) W.heap.size 24 [.slice V n2 cm] := ((Blk.new W 24 [.slice V n2 cm]).alloc _).alloc _
    have x1 := (hE1.k1.ext hb0).cell (i := 1) rfl
    have hsz : (((W.alloc (.cells #[.slice V n2 cm] 24)).alloc (.cells #[.slice none 0 0] 24)).alloc (.cells #[.bool false] 4)).heap.size = W.heap.size + 3 := by simp
    generalize ((W.alloc (.cells #[.slice V n2 cm] 24)).alloc (.cells #[.slice none 0 0] 24)).alloc (.cells #[.bool false] 4) = W3 at *
    have Hsz := Lib.hid hsz
    clear hsz
    have x4 := k4.cell (i := 0) rfl
    have x5 := k5.cell (i := 0) rfl
    have x6 := k6.cell (i := 0) rfl
    go_wp2_with fail
    refine (clone_any V n2 cm at_ W3 hm' (by omega) hc2).mono ?_; rintro e w4 ⟨r, rfl, hr, hb4⟩
    have k5' := k5.ext hb4
    have k6' := k6.ext hb4
    have y5 := k5'.cell (i := 0) rfl
    have y6 := k6'.cell (i := 0) rfl
    have z5 := k5'.free 0
    have z6 := k6'.free 0
    have hv4 := hv2.ext hb4
    have hb5 := ext_trans hb0 hb4
    clear x1 x4 x5 x6
    obtain ⟨Vr, cr, rfl, hr1, hr2, hr3, hr4⟩ := hr
    rw [hm'] at hr1 ⊢
    go_wp2
    have s5 := Blk.other (p := ⟨W.heap.size + 1 + 1, 0, none⟩) (k5'.set 0 (.slice Vr n2 cr)) (by simp) (.bool true)
    have s6 := (Blk.other (p := ⟨W.heap.size + 1, 0, none⟩) k6' (by simp) (.slice Vr n2 cr)).set 0 (.bool true)
    have hvl := fun k hk => (hv.lt (k := k) hk).2
    have hv5 := (hv4.kept (grownBy_setCell' w4 (W.heap.size + 1) (.slice Vr n2 cr)) (by
      cases hx : (Value.slice V n2 cm).ownBlock with
      | none => exact .inl rfl
      | some k => exact .inr (by have := hvl k hx; simp; omega))).kept (grownBy_setCell' _ (W.heap.size + 1 + 1) (.bool true)) (by
      cases hx : (Value.slice V n2 cm).ownBlock with
      | none => exact .inl rfl
      | some k => exact .inr (by have := hvl k hx; simp; omega))
    have hb6 := (hb5.setCell (p := ⟨W.heap.size + 1, 0, none⟩) (by simp) (.slice Vr n2 cr)).setCell (p := ⟨W.heap.size + 1 + 1, 0, none⟩) (by simp; omega) (.bool true)
    have hr5 : Cells ((w4.setCell ⟨W.heap.size + 1, 0, none⟩ (.slice Vr n2 cr)).setCell ⟨W.heap.size + 1 + 1, 0, none⟩ (.bool true)) Vr 1 encI at_ := by
      refine Cells.keep hr3 (fun p hp hA => ?_)
      have := (hr4 _ hA).1
      have h1 := Hsz.out
      have e1 : ((w4.setCell ⟨W.heap.size + 1, 0, none⟩ (.slice Vr n2 cr)).setCell ⟨W.heap.size + 1 + 1, 0, none⟩ (.bool true)).heap[p.block]? = w4.heap[p.block]? := (Below.heap_setCell _ _ _ _ (by simp; omega)).trans (Below.heap_setCell _ _ _ _ (by simp; omega))
      simp [World.cell?, e1]
    have hsz5 : w4.heap.size ≤ ((w4.setCell ⟨W.heap.size + 1, 0, none⟩ (.slice Vr n2 cr)).setCell ⟨W.heap.size + 1 + 1, 0, none⟩ (.bool true)).heap.size := by simp [World.setCell]
    generalize (w4.setCell ⟨W.heap.size + 1, 0, none⟩ (.slice Vr n2 cr)).setCell ⟨W.heap.size + 1 + 1, 0, none⟩ (.bool true) = W5 at *
    have t5 := s5.cell (i := 0) rfl
    have t6 := s6.cell (i := 0) rfl
    refine ⟨.tuple #[.slice Vr n2 cr, .bool true], by simp [results, Try.results108, go_sem, t5, t6], _, rfl, grown_b hb6 _, hv5, Vr, cr, by simp [standR, hm'], by simp [standR, hm']; exact hr1, hr2, by simpa [standR] using hr5, fun k hk => ?_⟩
    have h1 := hr4 k hk
    have h2 := Hsz.out
    omega
  | succ m ih =>
    intro at_ v W hm hW hv
    obtain ⟨V, cm, rfl, hcm, hcx, hcl⟩ := hv.cells encI_len
    obtain ⟨q, hq⟩ : ∃ q, at_.length = q := ⟨_, rfl⟩
    rw [hq] at hv hcm hm ⊢
    have hqn : q < n2 := by omega
    have hqm : q ≤ 8 := by omega
    have hvl := fun k hk => (hv.lt (k := k) hk).2
    have hvb := fun k hk => (hv.lt (k := k) hk).1
    have hne : ((q : Int) == (n2 : Int)) = false := by simp; omega
    have hE1 := hE.ext hW
    have hst := StI.start A1 A2 A3 n1 n2 n3 c1 c2 c3 bm q hv
    refine (callsIn_wide (n := 40)).1 (callsIn_of_wp_marks Try.func108 rfl trivial ?_)
    simp only [Try.ntmps108, List.size_toArray, List.length_cons, List.length_nil, Nat.reduceAdd, Nat.reduceSub, Array.replicate_succ, Array.replicate_zero, List.push_toArray, List.append_toArray, List.nil_append, List.cons_append]
    refine wpIn_wide.2 ?_
    go_upto_region 1 with fail
    have k4 : Blk (((W.alloc (.cells #[.slice V q cm] 24)).alloc (.cells #[.slice none 0 0] 24)).alloc (.cells #[.bool false] 4)) W.heap.size 24 [.slice V q cm] := ((Blk.new W 24 [.slice V q cm]).alloc _).alloc _
    have hb0 : Below W.heap.size W (((W.alloc (.cells #[.slice V q cm] 24)).alloc (.cells #[.slice none 0 0] 24)).alloc (.cells #[.bool false] 4)) := (((Below.refl _ _).alloc (Nat.le_refl _) _).alloc (by simp) _).alloc (by simp; omega) _
    have hsz : (((W.alloc (.cells #[.slice V q cm] 24)).alloc (.cells #[.slice none 0 0] 24)).alloc (.cells #[.bool false] 4)).heap.size = W.heap.size + 3 := by simp
    have hE3 := hE1.ext hb0
    generalize ((W.alloc (.cells #[.slice V q cm] 24)).alloc (.cells #[.slice none 0 0] 24)).alloc (.cells #[.bool false] 4) = W3 at *
    have x0 := hE3.k1.cell (i := 0) rfl
    have x1 := hE3.k1.cell (i := 1) rfl
    have x2 := hE3.k1.cell (i := 2) rfl
    have x3 := hE3.k4.cell (i := 0) rfl
    have x4 := k4.cell (i := 0) rfl
    have Hsz := Lib.hid hsz
    clear hsz
    go_wp2_with fail
    refine (free_any y A1 A2 A3 V n1 n2 n3 c1 c2 c3 q cm bm W3).mono ?_; rintro e w1 ⟨rfl, rfl⟩
    rw [Hsz.out]
    clear x0 x1 x2 x3 x4
    have hsz7 : ((((W3.alloc (.cells #[.slice A1 n1 c1, .slice A2 n2 c2, .slice A3 n3 c3] 61)).alloc (.cells #[.map (some bm)] 138)).alloc (.cells #[.slice V q cm] 24)).alloc (.cells #[.int .i64 (q : Int)] 3)).heap.size = W.heap.size + 7 := by simp [Hsz.out]
    generalize (((W3.alloc (.cells #[.slice A1 n1 c1, .slice A2 n2 c2, .slice A3 n3 c3] 61)).alloc (.cells #[.map (some bm)] 138)).alloc (.cells #[.slice V q cm] 24)).alloc (.cells #[.int .i64 (q : Int)] 3) = W7 at *
    go_wp2
    generalize ha : Act.mk _ _ = a0
    have hE7 := hE.ext (hst.below hW)
    have hit := hst.it hq hE7
    have hbm : bm < W00.heap.size := hE.pm.lt
    have hWs := hW.size
    refine wpIn_wide.1 (wpIn_rangeFunc_ownH (F := Fence.wide) (n := 40) rfl (by omega) (gf := 112) (lb := #[.pointer (some ⟨W.heap.size + 3, 0, none⟩), .pointer (some ⟨W.heap.size + 3 + 3, 0, none⟩), .pointer (some ⟨W.heap.size + 3 + 2, 0, none⟩), .pointer (some ⟨W.heap.size + 3 + 1, 0, none⟩)]) (by rw [← ha]; rfl) trivial (enters_of Try.func112 (by kernel_rfl) rfl)
      (encs := fun x : Ix n1 => #[.int .i64 (x.1 : Int)]) (S := fun ys => ys = freeIx (fits y ps at_) n1 n1 (Nat.le_refl _)) (Sp := fun pre => ∃ k, ∃ h : k ≤ n1, pre = freeIx (fits y ps at_) n1 k h) (N := n1) (w0 := W7)
      (Kp := fun X Y => ItAt y A1 A2 A3 V n1 n2 n3 c1 c2 c3 q cm bm (W.heap.size + 3) ps at_ X → ItAt y A1 A2 A3 V n1 n2 n3 c1 c2 c3 q cm bm (W.heap.size + 3) ps at_ Y)
      (fun l J Jx Wx hWx _ _ hY h0 => free1_in y A1 A2 A3 V n1 n2 n3 c1 c2 c3 q cm bm (W.heap.size + 3) ps at_ 39 l (by omega) hn1 hn2 hq hqn h8 h81 hc2 J Jx hY Wx (hit.ext hWx) h0)
      (fun h k x => k (h x)) (fun X l o o' hl ho hc _ hi => hi.put hl ho hc (by omega)) (Below.refl _ _) (fun _ => rfl)
      (fun pre X => (∀ x ∈ pre, standR y ps n1 m (at_ ++ [(x.1 : Int)]) = none) ∧ StI W W00.heap.size (.slice V q cm) at_ A1 A2 A3 n1 n2 n3 c1 c2 c3 bm q X)
      (fun c pre X => c = Code.ret ∧ ∃ pre' x r, pre = pre' ++ [x] ∧ (∀ z ∈ pre', standR y ps n1 m (at_ ++ [(z.1 : Int)]) = none) ∧ (standR y ps n1 m (at_ ++ [(x.1 : Int)])).isSome = true ∧ W.grownBy X (Value.slice V q cm).ownBlock ∧ OwnL X W00.heap.size 3 1 encI (.slice V q cm) at_ ∧ Blk X (W.heap.size + 1) 24 [r] ∧ Blk X (W.heap.size + 2) 4 [.bool true] ∧ FreshL W X 1 encI r ((standR y ps n1 m (at_ ++ [(x.1 : Int)])).getD []))
      ?own ?ownx ⟨by simp, hst⟩
      (fun x a' _ => a' = { tmps := (a0.tmps.setIfInBounds 22 (.int .i64 (x.1 : Int))).setIfInBounds 7 (.int .i64 (x.1 : Int)), defers := [] })
      (fun _ _ _ _ _ _ hs _ _ => hs)
      ?assign ?body ?done ?stop)
    case own =>
      rintro pre X Y row ⟨h1, hs⟩ hg hr
      refine ⟨h1, hs.turn hvl hg (fun b e => .inr (by have := (hr b e).1; omega)) (hs.own.kept hg ?_)⟩
      cases hx : (Value.slice V q cm).ownBlock with
      | none => exact .inl rfl
      | some k => exact .inr (fun e => by have h2 := hvl k hx; have := (hr k e.symm).1; omega)
    case ownx =>
      rintro c pre X Y row ⟨hc, pre', x, r, hp, h1, hso, hgr, hown, hb5, hb6, hfr⟩ hg hr
      have hr' := fun r e => (hr r e).2
      refine ⟨hc, pre', x, r, hp, h1, hso, grown_step hgr hg (fun b e => .inr (by have := (hr b e).1; omega)), hown.kept hg ?_, Blk.kept hb5 hg hr', Blk.kept hb6 hg hr', ?_⟩
      · cases hx : (Value.slice V q cm).ownBlock with
        | none => exact .inl rfl
        | some k => exact .inr (fun e => by have h2 := hvl k hx; have := (hr k e.symm).1; omega)
      · obtain ⟨A, c, hv', g1, g2, g3, g4⟩ := hfr
        refine ⟨A, c, hv', g1, g2, fun i x hi => ?_, fun k hk => ⟨(g4 k hk).1, Nat.lt_of_lt_of_le (g4 k hk).2 hg.size⟩⟩
        obtain ⟨b, off, hA, hcl⟩ := g3 i x hi
        exact ⟨b, off, hA, fun j v hj => cell_kept (hcl j v hj) hg hr'⟩
    case assign =>
      subst ha
      rintro l pre x X K ⟨h1, hs⟩ hK
      gi_wp2
      exact hK _ _ (KeepsFrom.refl _ _) (fun h => h) ⟨h1, hs⟩ rfl
    case body =>
      subst ha
      rintro l pre x a' X hl ⟨r, hr⟩ ⟨h1, hs⟩ rfl hlt
      simp only [List.setIfInBounds_toArray, List.set_cons_succ, List.set_cons_zero]
      have hEX := hE.ext (hs.below hW)
      have hXs : W.heap.size + 7 ≤ X.heap.size := by have := hs.B3.lt; omega
      have hb5 : b5 < W00.heap.size := hE.k5.lt
      have hX1 := hs.turn hvl (grown_b (ext_drew X) none) (by simp) (hs.own.ext (ext_drew X))
      have hE2 := hEX.ext (ext_drew X)
      have hg2 : X.grownBy X.drew none := grown_b (ext_drew X) none
      have hX2 : X.drew.heap.size = X.heap.size := rfl
      have eg := enters_of Try.func108 (by kernel_rfl) rfl
      unfold Enters at eg
      gi_upto_region 5 with fail
      obtain ⟨M, hM⟩ : ∃ M, M = (Value.slice V q cm).ownBlock.toList ++ [X.heap.size + 1] := ⟨_, rfl⟩
      have hMm : ∀ b, b ∈ M ↔ ((Value.slice V q cm).ownBlock = some b ∨ b = X.heap.size + 1) := fun b => by rw [hM]; simp
      clear hM
      refine Dr.wpIn_region_plan rfl ?q 11 M (.q [0, 1, 2] (.e1 3 (.e1 4 (.e1 5 (.q [6, 7, 8, 9, 10] .done))))) (by kernel_rfl) (by kernel_rfl) (by kernel_rfl) ?_
      case q => rintro ⟨_, _, h⟩; exact h
      have hM5 : b5 ∉ M := fun h => by
        rcases (hMm _).1 h with h | h
        · have := hvb _ h; omega
        · omega
      have hM4 : W.heap.size ∉ M := fun h => by
        rcases (hMm _).1 h with h | h
        · have := hvl _ h; omega
        · omega
      generalize X.drew = X2 at *
      have HX2 := Lib.hid hX2
      clear hX2
      have q0 := Dr.cls_cell (hE2.k5.cell (i := 0) rfl) hM5
      have q1 := Dr.cls_cell (hX1.k4.cell (i := 0) rfl) hM4
      refine Dr.plan_q (l := [_, _, _]) rfl (fun K hK => ?_)
      iterate 3 (go_big_quiet_step (fail))
      refine wpQuiet_nil (hK _ ?_); clear hK K
      clear q0 q1
      refine Dr.plan_e rfl (by rfl) (fun K hK => ?_)
      go_wp2_with fail
      refine hK _ _ (.of (ext_alloc _ _)) ?_; clear hK K
      refine Dr.plan_e rfl (by rfl) (fun K hK => ?_)
      refine app1_two 24 3 et24 _ _ rfl W00.heap.size (.slice V q cm) at_ rfl (hX1.own.alloc _) X2.heap.size rfl (x.1 : Int) (by simp) (by omega) (by have := HX2.out; simp; omega) ?_
      intro v' w' hown2 hcase
      rw [hq] at hcase
      have hX2s := HX2.out
      obtain ⟨gb, hvg, hgb, hbel, hXw, hback⟩ : ∃ gb, v'.ownBlock = some gb ∧ ((Value.slice V q cm).ownBlock = some gb ∨ gb = X2.heap.size + 1) ∧ Dr.Bel M (X2.alloc (.cells #[.int .i64 (x.1 : Int)] 3)) w' ∧ X2.grownBy w' (Value.slice V q cm).ownBlock ∧ ∀ Y, w'.grownBy Y (some gb) → OwnL Y W00.heap.size 3 1 encI v' (at_ ++ [(x.1 : Int)]) → OwnL Y W00.heap.size 3 1 encI (.slice V q cm) at_ := by
        rcases hcase with ⟨g', cap, hv', rfl, hgr⟩ | ⟨cap, rfl, hgr⟩
        · simp only [Value.slice.injEq] at hv'
          obtain ⟨rfl, -, rfl⟩ := hv'
          exact ⟨g', rfl, .inl rfl, ⟨hgr.os, hgr.tape, hgr.output, hgr.size, fun k hk hm => hgr.block k hk (fun e => by cases e; exact hm ((hMm _).2 (.inl rfl)))⟩, grown_step (grown_b (ext_alloc _ _) _) hgr (fun b e => .inl e), fun Y _ h => OwnL.back hq h⟩
        · refine ⟨X2.heap.size + 1, by simp [Value.ownBlock], .inr rfl, ⟨hgr.os, hgr.tape, hgr.output, hgr.size, fun k hk _ => hgr.block k hk (by simp)⟩, grown_step (grown_b (ext_alloc _ _) _) hgr (by simp), fun Y hY _ => ?_⟩
          refine ((hX1.own.alloc _).kept hgr ?_).kept hY ?_
          · cases (Value.slice V q cm).ownBlock with
            | none => exact .inl rfl
            | some k => exact .inr (by simp)
          · cases hx : (Value.slice V q cm).ownBlock with
            | none => exact .inl rfl
            | some k => exact .inr (by have := hvl k hx; simp; omega)
      refine hK _ _ hbel ?_; clear hK K
      go_frame
      clear hbel hcase
      have hwv := hback w' ⟨rfl, rfl, rfl, Nat.le_refl _, fun _ _ _ => rfl⟩ hown2
      have hs' := hX1.turn hvl hXw (fun b e => .inl e) hwv
      have hbw := hs'.below hW
      have hxw := hXw.size
      refine Dr.plan_e rfl (by rfl) (fun K hK => ?_)
      go_wp2_with fail
      refine (ih (at_ ++ [(x.1 : Int)]) v' w' (by simp; omega) hbw hown2).mono ?_
      rintro e w5 ⟨rr, rfl, hgr5, hown5, hr5⟩
      rw [hvg] at hgr5
      refine hK _ _ ⟨hgr5.os, hgr5.tape, hgr5.output, hgr5.size, fun k hk hm => hgr5.block k hk (fun e => by cases e; exact hm ((hMm _).2 (hgb.imp id (fun h => by omega))))⟩ ?_; clear hK K
      have hv5 := hback w5 hgr5 hown5
      have hs5 := hs'.turn hvl hgr5 (fun b e => by cases e; exact hgb.imp id (fun h => by omega)) hv5
      have hkf : ∀ B, W.heap.size + 7 ≤ B → KeepsFrom B X w5 := fun B hB => by
        refine ⟨by have := hgr5.size; omega, fun k o hk h ho => ?_⟩
        have hkX : k < X.heap.size := (Array.getElem?_eq_some_iff.1 h).1
        have h1 : X2.heap[k]? = X.heap[k]? := hg2.block k hkX (by simp)
        have h2 : w'.heap[k]? = X2.heap[k]? := hXw.block k (by omega) (fun e => by have := hvl k e.symm; omega)
        have h3 : w5.heap[k]? = w'.heap[k]? := hgr5.block k (by omega) (fun e => by
          cases e
          rcases hgb with h | h
          · have := hvl _ h; omega
          · omega)
        rw [h3, h2, h1]; exact h
      have Hxw := Lib.hid (show W.heap.size + 7 ≤ w'.heap.size by omega)
      clear hback hwv hs' hgr5 hown5 hown2 hv5 hXw hxw hX2s
      refine Dr.plan_q (l := [_, _, _, _, _]) rfl (fun K hK => ?_)
      iterate 5 (go_big_quiet_step (fail))
      refine wpQuiet_nil (hK _ ?_); clear hK K
      refine Dr.plan_end rfl ?_
      have hE5 := hE.ext (hs5.below hW)
      have hit5 := hs5.it hq hE5
      cases hso : (standR y ps n1 m (at_ ++ [(x.1 : Int)])).isSome
      · gi_wp2
        refine ⟨hkf _ (by omega), fun _ => hit5, fun z hz => ?_, hs5⟩
        rcases List.mem_append.1 hz with hz | hz
        · exact h1 z hz
        · rw [List.mem_singleton.1 hz]
          exact Option.not_isSome_iff_eq_none.1 (by rw [hso]; simp)
      · have f5 := hs5.k5.free 0
        have f6 := hs5.k6.free 0
        have e5 := hs5.k5.cell (i := 0) rfl
        have e6 := hs5.k6.cell (i := 0) rfl
        have Hso := Lib.hid hso
        obtain ⟨Vr, cr, rfl, g1, g2, g3, g4⟩ := hr5
        generalize hres : (standR y ps n1 m (at_ ++ [(x.1 : Int)])).getD [] = res at *
        have Hres := Lib.hid hres
        clear hres hso
        gi_wp2
        have hne5 : ∀ B, W.heap.size ≤ B → (Value.slice V q cm).ownBlock = none ∨ (Value.slice V q cm).ownBlock ≠ some B := fun B hB => by
          cases hx : (Value.slice V q cm).ownBlock with
          | none => exact .inl rfl
          | some k => exact .inr (by have := hvl k hx; simp; omega)
        have hne6 : ∀ B, B < W.heap.size + 7 → Vr.map (·.block) ≠ some B := fun B hB e => by
          have := (g4 _ e).1
          have := Hxw.out
          omega
        refine ⟨(hkf _ (by omega)).trans (((KeepsOthers.setCell _ _ _).from _).trans ((KeepsOthers.setCell _ _ _).from _)), rfl, pre, x, .slice Vr res.length cr, rfl, h1, Hso.out, ?_, ?_, ?_, ?_, Vr, cr, by rw [Hres.out], by rw [Hres.out]; exact g1, g2, ?_, fun k hk => ?_⟩
        · exact grown_step (grown_step hs5.gr (grownBy_setCell' _ (W.heap.size + 1) _) (fun b e => by cases e; exact .inr (by omega))) (grownBy_setCell' _ (W.heap.size + 1 + 1) _) (fun b e => by cases e; exact .inr (by omega))
        · exact (hs5.own.kept (grownBy_setCell' _ (W.heap.size + 1) _) (hne5 (W.heap.size + 1) (by omega))).kept (grownBy_setCell' _ (W.heap.size + 1 + 1) _) (hne5 (W.heap.size + 1 + 1) (by omega))
        · exact Blk.other (p := ⟨W.heap.size + 1 + 1, 0, none⟩) (hs5.k5.set 0 _) (by simp) _
        · exact (Blk.other (p := ⟨W.heap.size + 1, 0, none⟩) hs5.k6 (by simp) _).set 0 _
        · rw [Hres.out]
          exact (g3.setCell (p := ⟨W.heap.size + 1, 0, none⟩) (hne6 (W.heap.size + 1) (by omega)) _).setCell (p := ⟨W.heap.size + 1 + 1, 0, none⟩) (hne6 (W.heap.size + 1 + 1) (by omega)) _
        · have := g4 k hk
          have := Hxw.out
          simp [World.setCell]
          omega
    case done =>
      subst ha
      rintro D ys X hD rfl ⟨h1, hs⟩ hK
      have hR := standR_none h1
      have f5 := hs.k5.free 0
      have f6 := hs.k6.free 0
      have e5 := hs.k5.cell (i := 0) rfl
      have e6 := hs.k6.cell (i := 0) rfl
      have HR := Lib.hid hR
      clear hR h1
      go_wp2
      have hne5 : ∀ B, W.heap.size ≤ B → (Value.slice V q cm).ownBlock = none ∨ (Value.slice V q cm).ownBlock ≠ some B := fun B hB => by
        cases hx : (Value.slice V q cm).ownBlock with
        | none => exact .inl rfl
        | some k => exact .inr (by have := hvl k hx; simp; omega)
      have t1 := grown_step (grown_step hs.gr (grownBy_setCell' X (W.heap.size + 1) (.slice none 0 0)) (fun b e => by cases e; exact .inr (by omega))) (grownBy_setCell' _ (W.heap.size + 1 + 1) (.bool false)) (fun b e => by cases e; exact .inr (by omega))
      have t2 := (hs.own.kept (grownBy_setCell' X (W.heap.size + 1) (.slice none 0 0)) (hne5 (W.heap.size + 1) (by omega))).kept (grownBy_setCell' _ (W.heap.size + 1 + 1) (.bool false)) (hne5 (W.heap.size + 1 + 1) (by omega))
      have t3 := Blk.other (p := ⟨W.heap.size + 1 + 1, 0, none⟩) (hs.k5.set 0 (.slice none 0 0)) (by simp) (.bool false)
      have t4 := (Blk.other (p := ⟨W.heap.size + 1, 0, none⟩) hs.k6 (by simp) (.slice none 0 0)).set 0 (.bool false)
      have hK8 : ((X.setCell ⟨W.heap.size + 1, 0, none⟩ (.slice none 0 0)).setCell ⟨W.heap.size + 1 + 1, 0, none⟩ (.bool false)).heap[D]? = some (.deferred (some [])) := (Below.heap_setCell _ _ _ D (by simp; omega)).trans ((Below.heap_setCell _ _ _ D (by simp; omega)).trans hK)
      change Blk ((X.setCell ⟨W.heap.size + 1, 0, none⟩ (.slice none 0 0)).setCell ⟨W.heap.size + 1 + 1, 0, none⟩ (.bool false)) _ _ _ at t4
      generalize (X.setCell ⟨W.heap.size + 1, 0, none⟩ (.slice none 0 0)).setCell ⟨W.heap.size + 1 + 1, 0, none⟩ (.bool false) = Y at *
      have hrow : ∀ r, some D = some r → ∃ o : Obj, Y.heap[r]? = some o ∧ o.isCells = false := fun r e => by cases e; exact ⟨_, hK8, rfl⟩
      have hg := grownBy_putObj' Y D (.deferred none)
      have p3 := (Blk.kept t3 hg hrow).cell (i := 0) rfl
      have p4 := (Blk.kept t4 hg hrow).cell (i := 0) rfl
      refine ⟨by simp, .inl ⟨_, _, rfl, run_takeDeferred hK8, .tuple #[.slice none 0 0, .bool false], by simp [results, Try.results108, go_sem, p3, p4], .slice none 0 0, by rw [HR.out]; rfl, grown_step t1 hg (fun b e => by cases e; exact .inr (by omega)), t2.kept hg (hne5 D (by omega)), by rw [HR.out]; exact FreshL.nil _ _ _ _⟩⟩
    case stop =>
      subst ha
      rintro D c pre X hD ⟨k, hk, hpre⟩ ⟨rfl, pre', x, r, hp, h1, hso, hgr, hown, hb5, hb6, hfr⟩ hK
      have hR := standR_some hk (hpre.symm.trans hp) h1 hso
      have hrow : ∀ r, some D = some r → ∃ o : Obj, X.heap[r]? = some o ∧ o.isCells = false := fun r e => by cases e; exact ⟨_, hK, rfl⟩
      have hg := grownBy_putObj' X D (.deferred none)
      have p3 := (Blk.kept hb5 hg hrow).cell (i := 0) rfl
      have p4 := (Blk.kept hb6 hg hrow).cell (i := 0) rfl
      refine wpIn_ret ?_
      refine ⟨by simp, .inl ⟨_, _, rfl, run_takeDeferred hK, .tuple #[r, .bool true], by simp [results, Try.results108, go_sem, p3, p4], r, by rw [hR, hso], grown_step hgr hg (fun b e => by cases e; exact .inr (by omega)), hown.kept hg ?_, ?_⟩⟩
      · cases hx : (Value.slice V q cm).ownBlock with
        | none => exact .inl rfl
        | some k => exact .inr (by have := hvl k hx; simp; omega)
      · rw [hR]
        obtain ⟨A, c, hv', g1, g2, g3, g4⟩ := hfr
        refine ⟨A, c, hv', g1, g2, fun i x hi => ?_, fun k hk => ⟨(g4 k hk).1, Nat.lt_of_lt_of_le (g4 k hk).2 hg.size⟩⟩
        obtain ⟨b, off, hA, hcl⟩ := g3 i x hi
        exact ⟨b, off, hA, fun j v hj => cell_kept (hcl j v hj) hg hrow⟩
end Go.Proofs.Ytopfhinnamhoiaa

/- Walk: stand, Stand. -/
namespace Go.Proofs.Ytopfhinnamhoiaa
open Go.RowKit Go.Bs Go.Yd Go.Pl Go.Sort
attribute [local go_sem] run_store_func run_store_map

def Yrd.stand (y : Yrd) : Option (List Int) := standR y (foeL y.foes) y.boxes.length y.needs.length []
def OptPost (R : Option (List Int)) (w : World) (e : Ending) (w' : World) : Prop :=
  ∃ r, e = .returned (.tuple #[r, .bool R.isSome]) ∧ FreshL w w' 1 encI r (R.getD []) ∧ Below w.heap.size w w'

theorem Yrd.okB_spec {y : Yrd} (h : Yrd.okB y = true) : (1 ≤ y.boxes.length ∧ y.boxes.length ≤ 8) ∧ y.needs.length ≤ 8 ∧ y.foes.length ≤ 20 ∧ (∀ x ∈ y.boxes, 0 ≤ x ∧ x ≤ 100000) ∧ (∀ x ∈ y.needs, 0 ≤ x ∧ x ≤ 100000) ∧ ∀ p ∈ y.foes, (0 ≤ p.1 ∧ p.1 < y.needs.length) ∧ (0 ≤ p.2 ∧ p.2 < y.needs.length) ∧ p.1 ≠ p.2 := by
  simp only [Yrd.okB, boxB, foeB, Bool.and_eq_true, decide_eq_true_eq, List.all_eq_true] at h
  obtain ⟨h1, h2, h3, h4, h5, h6⟩ := h
  refine ⟨by omega, by omega, by omega, h2, h4, fun p hp => ?_⟩
  have := h6 p hp
  exact ⟨by omega, by omega, this.2.2⟩

set_option maxRecDepth 100000 in
set_option maxHeartbeats 2000000 in
theorem stand_any (y : Yrd) (A1 A2 A3 : Option Addr) (n1 n2 n3 c1 c2 c3 : Nat) (w : World) (h1 : y.boxes.length = n1) (h2 : y.needs.length = n2) (h3 : y.foes.length = n3) (hc2 : n2 ≤ c2) (hok : Yrd.okB y = true) (hd : YdAt w y A1 A2 A3) :
    Calls Try.prog 81 #[.agg #[.slice A1 n1 c1, .slice A2 n2 c2, .slice A3 n3 c3]] w (OptPost (Yrd.stand y) w) := by
  obtain ⟨k1, k2, k3, k4, k5, k6⟩ := Yrd.okB_spec hok
  have hS : Yrd.stand y = standR y (foeL y.foes) n1 n2 [] := by unfold Yrd.stand; rw [h1, h2]
  have HS := Lib.hid hS
  have eg := enters_of Try.func108 (by kernel_rfl) rfl
  unfold Enters at eg
  have K1 := Lib.hid (Blk.new w 61 [.slice A1 n1 c1, .slice A2 n2 c2, .slice A3 n3 c3])
  have hb0 := ext_alloc w (.cells #[.slice A1 n1 c1, .slice A2 n2 c2, .slice A3 n3 c3] 61)
  have hd0 := hd.ext hb0
  rw [h1] at k1
  clear hS hd k4 k5
  go_enter Try.func81, Try.ntmps81
  go_wp2_with fail
  refine (foes_any y A1 A2 A3 n1 n2 n3 c1 c2 c3 _ h3 (by omega) hd0 (fun p hp => by have := k6 p hp; omega)).mono ?_
  rintro e w1 ⟨bm, rfl, hbm, hpm, hb1⟩
  have hb2 := ext_trans hb0 hb1
  have hd1 := hd0.ext hb1
  have K2 := Lib.hid (K1.out.ext hb1)
  clear k6
  go_upto_region 4 with fail
  have hb3 : Below w1.heap.size w1 ((w1.alloc (.cells #[.map (some bm)] 138)).alloc (.cells #[.func (.func 108) #[] #[.pointer (some ⟨w.heap.size, 0, none⟩), .pointer (some ⟨w1.heap.size, 0, none⟩), .pointer (some ⟨w1.heap.size + 1, 0, none⟩)]] 164)) := ((Below.refl _ _).alloc (Nat.le_refl _) _).alloc (by simp) _
  have k5 : Blk ((w1.alloc (.cells #[.map (some bm)] 138)).alloc (.cells #[.func (.func 108) #[] #[.pointer (some ⟨w.heap.size, 0, none⟩), .pointer (some ⟨w1.heap.size, 0, none⟩), .pointer (some ⟨w1.heap.size + 1, 0, none⟩)]] 164)) (w1.heap.size + 1) 164 [.func (.func 108) #[] #[.pointer (some ⟨w.heap.size, 0, none⟩), .pointer (some ⟨w1.heap.size, 0, none⟩), .pointer (some ⟨w1.heap.size + 1, 0, none⟩)]] := by
    have := Blk.new (w1.alloc (.cells #[.map (some bm)] 138)) 164 [.func (.func 108) #[] #[.pointer (some ⟨w.heap.size, 0, none⟩), .pointer (some ⟨w1.heap.size, 0, none⟩), .pointer (some ⟨w1.heap.size + 1, 0, none⟩)]]
    simpa using this
  have k4 : Blk ((w1.alloc (.cells #[.map (some bm)] 138)).alloc (.cells #[.func (.func 108) #[] #[.pointer (some ⟨w.heap.size, 0, none⟩), .pointer (some ⟨w1.heap.size, 0, none⟩), .pointer (some ⟨w1.heap.size + 1, 0, none⟩)]] 164)) w1.heap.size 138 [.map (some bm)] := (Blk.new w1 138 [.map (some bm)]).alloc _
  have hE : EnvS y A1 A2 A3 n1 n2 n3 c1 c2 c3 w.heap.size w1.heap.size (w1.heap.size + 1) bm (foeL y.foes) ((w1.alloc (.cells #[.map (some bm)] 138)).alloc (.cells #[.func (.func 108) #[] #[.pointer (some ⟨w.heap.size, 0, none⟩), .pointer (some ⟨w1.heap.size, 0, none⟩), .pointer (some ⟨w1.heap.size + 1, 0, none⟩)]] 164)) := ⟨K2.out.ext hb3, k4, k5, hd1.ext hb3, hpm.ext hb3⟩
  have x5 := k5.cell (i := 0) rfl
  generalize ((w1.alloc (.cells #[.map (some bm)] 138)).alloc (.cells #[.func (.func 108) #[] #[.pointer (some ⟨w.heap.size, 0, none⟩), .pointer (some ⟨w1.heap.size, 0, none⟩), .pointer (some ⟨w1.heap.size + 1, 0, none⟩)]] 164)) = W at *
  have hb4 := ext_trans hb2 hb3
  clear k4 k5 hb3 hb2 hb1 hpm hd1 hb0 hd0 K1 K2
  go_wp2_with fail
  refine (stand1_any y A1 A2 A3 n1 n2 n3 c1 c2 c3 w.heap.size w1.heap.size (w1.heap.size + 1) bm (foeL y.foes) W hE h1 h2 (by omega) (by omega) hc2 n2 [] (.slice none 0 0) W (by simp) (ext_refl _) OwnL.nil).mono ?_
  rintro e w5 ⟨r, rfl, hgr, -, hfr⟩
  have hb5 : Below W.heap.size W w5 := ⟨hgr.os, hgr.tape, hgr.output, hgr.size, fun k hk => hgr.block k hk (by simp [Value.ownBlock])⟩
  rw [← HS.out] at hfr ⊢
  go_wp2
  go_ret2
  exact ⟨_, rfl, hfr.older hb4.size, ext_trans hb4 hb5⟩

def StandR (y : Yrd) : List Int × Int := if Yrd.okB y then (match Yrd.stand y with | some l => (l, 0) | none => ([], 7)) else ([], 1)
def StandOut (R : List Int × Int) (w : World) (e : Ending) (w' : World) : Prop :=
  ∃ v, e = .returned (.tuple #[v, .int .i64 R.2]) ∧ FreshL w w' 1 encI v R.1 ∧ Below w.heap.size w w'
set_option maxRecDepth 100000 in
set_option maxHeartbeats 1000000 in
theorem Stand_any (y : Yrd) (A1 A2 A3 : Option Addr) (n1 n2 n3 c1 c2 c3 : Nat) (w : World) (h1 : y.boxes.length = n1) (h2 : y.needs.length = n2) (h3 : y.foes.length = n3) (m1 : n1 ≤ 9223372036854775807) (m2 : n2 ≤ 9223372036854775807) (m3 : n3 ≤ 9223372036854775807) (hc2 : n2 ≤ c2) (hd : YdAt w y A1 A2 A3) :
    Calls Try.prog 33 #[.agg #[.slice A1 n1 c1, .slice A2 n2 c2, .slice A3 n3 c3]] w (StandOut (StandR y) w) := by
  have hb0 := ext_alloc w (.cells #[.slice A1 n1 c1, .slice A2 n2 c2, .slice A3 n3 c3] 61)
  have HV := Lib.hid (yvalid_any y A1 A2 A3 n1 n2 n3 c1 c2 c3 _ h1 h2 h3 m1 m2 m3 (hd.ext hb0))
  have K1 := Lib.hid (Blk.new w 61 [.slice A1 n1 c1, .slice A2 n2 c2, .slice A3 n3 c3])
  cases hv : Yrd.okB y
  · have HR := Lib.hid (show StandR y = ([], 1) by unfold StandR; rw [hv]; rfl)
    rw [hv] at HV
    clear hv h1 h2 h3 m1 m2 m3 hd
    go_enter Try.func33, Try.ntmps33
    go_wp2_with fail
    refine HV.out.mono ?_; rintro e w1 ⟨rfl, hb1⟩
    go_wp2
    rw [HR.out]
    go_ret2
    exact ⟨_, rfl, FreshL.nil _ _ _ _, ext_trans hb0 hb1⟩
  · have Hv := Lib.hid hv
    rw [hv] at HV
    clear hv m1 m2 m3
    go_enter Try.func33, Try.ntmps33
    go_wp2_with fail
    refine HV.out.mono ?_; rintro e w1 ⟨rfl, hb1⟩
    have hb2 := ext_trans hb0 hb1
    have hK := K1.out.ext hb1
    have x0 := hK.cell (i := 0) rfl
    have x1 := hK.cell (i := 1) rfl
    have x2 := hK.cell (i := 2) rfl
    go_wp2_with fail
    refine (stand_any y A1 A2 A3 n1 n2 n3 c1 c2 c3 w1 h1 h2 h3 hc2 Hv.out (hd.ext hb2)).mono ?_
    rintro e w2 ⟨r, rfl, hr, hb3⟩
    have hb4 := ext_trans hb2 hb3
    clear x0 x1 x2
    cases hs : Yrd.stand y with
    | none =>
      have HR := Lib.hid (show StandR y = ([], 7) by unfold StandR; rw [Hv.out, if_pos rfl, hs])
      clear hs hr
      simp only [Option.isSome_none]
      go_wp2
      rw [HR.out]
      go_ret2
      exact ⟨_, rfl, FreshL.nil _ _ _ _, hb4⟩
    | some l =>
      have HR := Lib.hid (show StandR y = (l, 0) by unfold StandR; rw [Hv.out, if_pos rfl, hs])
      rw [hs] at hr
      clear hs
      simp only [Option.isSome_some]
      go_wp2
      rw [HR.out]
      go_ret2
      exact ⟨_, rfl, hr.older hb2.size, hb4⟩
end Go.Proofs.Ytopfhinnamhoiaa

/- Walk: the document's examples; wakes. -/
namespace Go.Proofs.Ytopfhinnamhoiaa
open Go.RowKit Go.Bs Go.Yd Go.Pl Go.Sort

def rowY : Yrd := ⟨[40, 60, 40, 80], [40, 30, 60], [(0, 2)]⟩
def wayR : Rd := ⟨[⟨10, 5, 20, true⟩, ⟨20, 4, 50, true⟩, ⟨0, 9, 20, true⟩, ⟨30, 4, 30, true⟩], 3⟩
def lampsG : Gd := ⟨[⟨-1, ⟨0, 0⟩, 0, 0⟩, ⟨0, ⟨100, 200⟩, 1000, 3⟩, ⟨1, ⟨300, 500⟩, 600, 10⟩], 10000⟩
theorem rowV : StandR rowY = ([0, 1, 3], 0) := by kernel_rfl
theorem wayV : (buyR wayR).1 = [0, 1] ∧ (buyR wayR).2.1 = 320 ∧ (buyR wayR).2.2.2 = 0 := by decide
theorem lampsV : spareR lampsG 2 = (100, 0) := by decide
theorem wearyV : wearyR 300 1200 [200, 300, 250, 250, 300] = (4, 2, 0) := by decide

/-- A new block that reads as a list. -/
theorem cells_new {α : Type} (w : World) (T : TypeId) (sz : Nat) (enc : α → List Value) (hen : ∀ x, (enc x).length = sz) (l : List α) : Cells (w.alloc (.cells (l.flatMap enc).toArray T)) (some ⟨w.heap.size, 0, none⟩) sz enc l := fun i x hi =>
  ⟨w.heap.size, 0, rfl, fun j y hj => by
    have h := flatMap_get hen l i j x y hi hj
    have := (Blk.new w T (l.flatMap enc)).cell h
    simpa using this⟩

set_option maxRecDepth 100000 in
theorem row_any (w : World) : Calls Try.prog 70 #[] w fun e w' => ∃ A1 A2 A3, e = .returned (.agg #[.slice A1 4 4, .slice A2 3 3, .slice A3 1 1]) ∧ YdAt w' rowY A1 A2 A3 ∧ Below w.heap.size w w' := by
  go_enter Try.func70, Try.ntmps70
  go_wp2
  refine bodyPost_ret (v := .agg #[.slice (some ⟨w.heap.size + 1, 0, none⟩) 4 4, .slice (some ⟨w.heap.size + 2, 0, none⟩) 3 3, .slice (some ⟨w.heap.size + 3, 0, none⟩) 1 1]) (by simp [results, Try.results70, go_sem]) rfl ?_
  have a1 := cells_new (w.alloc (.cells #[.slice (some ⟨w.heap.size + 1, 0, none⟩) 4 4, .slice (some ⟨w.heap.size + 1 + 1, 0, none⟩) 3 3, .slice (some ⟨w.heap.size + 1 + 1 + 1, 0, none⟩) 1 1] 61)) 3 1 encI encI_len [40, 60, 40, 80]
  have a2 := cells_new ((w.alloc (.cells #[.slice (some ⟨w.heap.size + 1, 0, none⟩) 4 4, .slice (some ⟨w.heap.size + 1 + 1, 0, none⟩) 3 3, .slice (some ⟨w.heap.size + 1 + 1 + 1, 0, none⟩) 1 1] 61)).alloc (.cells #[.int .i64 40, .int .i64 60, .int .i64 40, .int .i64 80] 3)) 3 1 encI encI_len [40, 30, 60]
  have a3 := cells_new (((w.alloc (.cells #[.slice (some ⟨w.heap.size + 1, 0, none⟩) 4 4, .slice (some ⟨w.heap.size + 1 + 1, 0, none⟩) 3 3, .slice (some ⟨w.heap.size + 1 + 1 + 1, 0, none⟩) 1 1] 61)).alloc (.cells #[.int .i64 40, .int .i64 60, .int .i64 40, .int .i64 80] 3)).alloc (.cells #[.int .i64 40, .int .i64 30, .int .i64 60] 3)) 64 2 encP (fun _ => rfl) [(0, 2)]
  simp only [World.size_alloc] at a1 a2 a3
  exact ⟨_, _, _, rfl, ⟨(a1.alloc _).alloc _, a2.alloc _, a3⟩, (((Below.refl _ _).alloc (Nat.le_refl _) _).alloc (by simp) _).alloc (by simp; omega) _ |>.alloc (by simp; omega) _⟩

set_option maxRecDepth 100000 in
theorem way_any (w : World) : Calls Try.prog 68 #[] w fun e w' => ∃ A, e = .returned (.agg #[.slice A 4 4, .int .i64 3]) ∧ RdAt w' A wayR ∧ Below w.heap.size w w' := by
  go_enter Try.func68, Try.ntmps68
  go_wp2
  refine bodyPost_ret (v := .agg #[.slice (some ⟨w.heap.size + 1, 0, none⟩) 4 4, .int .i64 3]) (by simp [results, Try.results68, go_sem]) rfl ?_
  have a1 := cells_new (w.alloc (.cells #[.slice (some ⟨w.heap.size + 1, 0, none⟩) 4 4, .int .i64 3] 92)) 123 4 Mkt.enc (fun _ => rfl) wayR.days
  simp only [World.size_alloc] at a1
  exact ⟨_, rfl, a1, ((Below.refl _ _).alloc (Nat.le_refl _) _).alloc (by simp) _⟩

set_option maxRecDepth 100000 in
theorem lamps_any (w : World) : Calls Try.prog 69 #[] w fun e w' => ∃ A, e = .returned (.agg #[.slice A 3 3, .int .i64 10000]) ∧ GdAt w' A lampsG ∧ Below w.heap.size w w' := by
  go_enter Try.func69, Try.ntmps69
  go_wp2
  refine bodyPost_ret (v := .agg #[.slice (some ⟨w.heap.size + 1, 0, none⟩) 3 3, .int .i64 10000]) (by simp [results, Try.results69, go_sem]) rfl ?_
  have a1 := cells_new (w.alloc (.cells #[.slice (some ⟨w.heap.size + 1, 0, none⟩) 3 3, .int .i64 10000] 43)) 136 5 Nd.enc (fun _ => rfl) lampsG.nodes
  simp only [World.size_alloc] at a1
  exact ⟨_, rfl, a1, ((Below.refl _ _).alloc (Nat.le_refl _) _).alloc (by simp) _⟩

set_option maxRecDepth 100000 in
set_option maxHeartbeats 1000000 in
theorem ints_any (A B : Option Addr) (n m c d : Nat) (l1 l2 : List Int) (w : World) (h1 : l1.length = n) (h2 : l2.length = m) (m1 : n ≤ 1000000000) (m2 : m ≤ 1000000000) (hA : Cells w A 1 encI l1) (hB : Cells w B 1 encI l2) :
    Calls Try.prog 44 #[.slice A n c, .slice B m d] w fun e w' => e = .returned (.bool (decide (l1 = l2))) ∧ Below w.heap.size w w' := by
  by_cases hnm : n = m
  · subst hnm
    generalize hres : decide (l1 = l2) = res
    have Hres := Lib.hid hres
    clear hres
    go_enter Try.func44, Try.ntmps44
    go_wp2
    go_loopw [5] (fun x wr => ∃ k : Nat, x = .int .i64 k ∧ k ≤ n ∧ Hid (l1.take k = l2.take k) ∧ Below w.heap.size w wr) (fun x _ => n - (intOf x).toNat)
    case atStart => exact ⟨0, rfl, by omega, Lib.hid (by simp), Below.refl _ _⟩
    case round =>
      obtain ⟨k, rfl, hk, Hk, hb⟩ := hrel
      by_cases hlt : k < n
      · have hlt' : (k : Int) < n := by omega
        have hk0 : (0 : Int) ≤ k := by omega
        go_upto_region 6 with fail
        refine Dr.wp_region_plan 9 [] (.q [0, 1, 2, 3, 4, 5, 6, 7, 8] .done) (by kernel_rfl) (by kernel_rfl) ?_
        have hb2 := hb.drew
        clear hb
        generalize World.drew _ = W at *
        have k1 : k < l1.length := by rw [h1]; exact hlt
        have k2 : k < l2.length := by rw [h2]; exact hlt
        obtain ⟨b1, o1, rfl, -, d1⟩ := (hA.ext hb2).at1 k1 rfl
        obtain ⟨b2, o2, rfl, -, d2⟩ := (hB.ext hb2).at1 k2 rfl
        have q1 := Dr.cell0 d1
        have q2 := Dr.cell0 d2
        refine Dr.plan_q (l := [_, _, _, _, _, _, _, _, _]) rfl (fun K hK => ?_)
        iterate 9 (go_big_quiet_step (fail))
        refine wpQuiet_nil (hK _ ?_); clear hK K
        refine Dr.plan_end rfl ?_
        clear q1 q2 d1 d2
        cases hq : (l1[k] != l2[k])
        · have Hn := Lib.hid (show l1.take (k + 1) = l2.take (k + 1) by
            rw [List.take_succ_eq_append_getElem k1, List.take_succ_eq_append_getElem k2, Hk.out]
            simp at hq
            rw [hq])
          clear hq
          go_wp2
          go_roundw
          case rel => exact ⟨k + 1, by go_num, by omega, Hn, hb2⟩
          case measure => simp [intOf]; omega
        · have Hr := Lib.hid (show res = false by
            rw [← Hres.out]
            refine decide_eq_false (fun e => ?_)
            subst e
            simp at hq)
          clear hq
          go_wp2
          go_ret
          exact ⟨ret_congr (bool_congr Hr.out.symm), hb2⟩
      · obtain rfl : k = n := by omega
        have Hr := Lib.hid (show res = true by
          rw [← Hres.out]
          have e := Hk.out
          rw [List.take_of_length_le (by omega), List.take_of_length_le (by omega)] at e
          exact decide_eq_true e)
        go_wp2
        go_ret
        exact ⟨ret_congr (bool_congr Hr.out.symm), hb⟩
  · have hr : decide (l1 = l2) = false := decide_eq_false (fun e => hnm (by rw [← h1, ← h2, e]))
    have Hr := Lib.hid hr
    have hnm' : ((n : Int) != (m : Int)) = true := by simp; omega
    clear hr
    go_enter Try.func44, Try.ntmps44
    go_wp2
    go_ret
    exact ⟨ret_congr (bool_congr Hr.out.symm), Below.refl _ _⟩
end Go.Proofs.Ytopfhinnamhoiaa

/- Walk: wakes. -/
namespace Go.Proofs.Ytopfhinnamhoiaa
open Go.RowKit Go.Bs Go.Yd Go.Pl Go.Sort

set_option maxRecDepth 100000 in
set_option maxHeartbeats 4000000 in
theorem wakes_any (w : World) : Calls Try.prog 17 #[] w fun e w' => e = .returned (.bool true) ∧ Below w.heap.size w w' := by
  have hrv := Lib.hid rowV
  have hwv := Lib.hid wayV
  have hlv := Lib.hid lampsV
  have hev := Lib.hid wearyV
  go_enter Try.func17, Try.ntmps17
  go_wp2_with fail
  refine (row_any w).mono ?_; rintro e w1 ⟨A1, A2, A3, rfl, hY, hb1⟩
  go_wp2_with fail
  refine (Stand_any rowY A1 A2 A3 4 3 1 4 3 1 w1 rfl rfl rfl (by omega) (by omega) (by omega) (by omega) hY).mono ?_
  rintro e w2 ⟨v, rfl, hv, hb2⟩
  rw [hrv.out] at hv ⊢
  have hb3 := ext_trans hb1 hb2
  obtain ⟨Av, cv, rfl, hv1, hv2, hv3, -⟩ := hv
  clear hb1 hb2 hY
  go_wp2_with fail
  refine (weary_any 300 1200 (some ⟨w2.heap.size, 0, none⟩) 5 5 [200, 300, 250, 250, 300] _ rfl (by omega) (cells_new w2 3 1 encI encI_len [200, 300, 250, 250, 300])).mono ?_
  rintro e w3 ⟨rfl, hb4⟩
  have hb5 := ext_trans (ext_trans hb3 (ext_alloc w2 _)) hb4
  have hv4 := (hv3.ext (ext_alloc w2 _)).ext hb4
  rw [hev.out]
  clear hb3 hb4 hv3
  simp only [tupW]
  go_wp2_with fail
  refine (way_any w3).mono ?_; rintro e w4 ⟨A4, rfl, hR, hb6⟩
  go_wp2_with fail
  refine (Buy_any wayR A4 4 4 w4 rfl (by omega) (by omega) hR).mono ?_
  rintro e w5 ⟨v5, x5, rfl, hv5, hx5, hb7⟩
  rw [hwv.out.1] at hv5
  rw [hwv.out.2.1, hwv.out.2.2]
  obtain ⟨Ab, cb, rfl, hv6, hv7, hv8, -⟩ := hv5
  obtain ⟨Ax, cx, rfl, -⟩ := hx5
  have hb8 := ext_trans hb5 (ext_trans hb6 hb7)
  have hv9 := hv4.ext (ext_trans hb6 hb7)
  clear hb5 hb6 hb7 hv4 hR
  go_wp2_with fail
  refine (lamps_any w5).mono ?_; rintro e w6 ⟨A6, rfl, hG, hb9⟩
  go_wp2_with fail
  refine (Spare_any lampsG A6 3 3 2 w6 rfl (by omega) (by omega) hG).mono ?_
  rintro e w7 ⟨rfl, hb10⟩
  rw [hlv.out]
  have hb11 := ext_trans hb8 (ext_trans hb9 hb10)
  have hs := hv9.ext (ext_trans hb9 hb10)
  have hp := hv8.ext (ext_trans hb9 hb10)
  clear hb8 hb9 hb10 hv9 hv8 hG
  go_wp2_with fail
  refine (ints_any Av (some ⟨w7.heap.size, 0, none⟩) 3 3 cv 3 [0, 1, 3] [0, 1, 3] _ rfl rfl (by omega) (by omega) (hs.ext (ext_alloc w7 _)) (cells_new w7 3 1 encI encI_len [0, 1, 3])).mono ?_
  rintro e w8 ⟨rfl, hb12⟩
  rw [show decide ([0, 1, 3] = ([0, 1, 3] : List Int)) = true from rfl]
  have hb13 := ext_trans (ext_trans hb11 (ext_alloc w7 _)) hb12
  have hp2 := (hp.ext (ext_alloc w7 _)).ext hb12
  go_wp2_with fail
  refine (ints_any Ab (some ⟨w8.heap.size, 0, none⟩) 2 2 cb 2 [0, 1] [0, 1] _ rfl rfl (by omega) (by omega) (hp2.ext (ext_alloc w8 _)) (cells_new w8 3 1 encI encI_len [0, 1])).mono ?_
  rintro e w9 ⟨rfl, hb14⟩
  rw [show decide ([0, 1] = ([0, 1] : List Int)) = true from rfl]
  have hb15 := ext_trans (ext_trans hb13 (ext_alloc w8 _)) hb14
  go_wp2
  go_ret
  exact ⟨rfl, hb15⟩
end Go.Proofs.Ytopfhinnamhoiaa

/- Walk: the references of YardDays. -/
namespace Go.Proofs.Ytopfhinnamhoiaa
open Go.RowKit Go.Bs Go.Yd Go.Pl Go.Sort

theorem In_any (n lo hi : Int) (w : World) :
    Calls Try.prog 27 #[.int .i64 n, .int .i64 lo, .int .i64 hi] w fun e w' => e = .returned (.bool (decide (lo ≤ n ∧ n ≤ hi))) ∧ w = w' := by
  generalize hres : decide (lo ≤ n ∧ n ≤ hi) = res
  have Hres := Lib.hid hres
  clear hres
  by_cases h : lo ≤ n
  · go_enter Try.func27, Try.ntmps27
    go_wp2
    go_ret
    exact ⟨ret_congr (bool_congr (by rw [← Hres.out]; simp [h])), rfl⟩
  · go_enter Try.func27, Try.ntmps27
    go_wp2
    go_ret
    exact ⟨ret_congr (bool_congr (by rw [← Hres.out]; simp; omega)), rfl⟩
theorem In_t {n lo hi : Int} (h : lo ≤ n ∧ n ≤ hi) (w : World) :
    Calls Try.prog 27 #[.int .i64 n, .int .i64 lo, .int .i64 hi] w fun e w' => e = .returned (.bool true) ∧ w = w' := by
  have := In_any n lo hi w
  rwa [decide_eq_true h] at this
theorem In_f {n lo hi : Int} (h : ¬ (lo ≤ n ∧ n ≤ hi)) (w : World) :
    Calls Try.prog 27 #[.int .i64 n, .int .i64 lo, .int .i64 hi] w fun e w' => e = .returned (.bool false) ∧ w = w' := by
  have := In_any n lo hi w
  rwa [decide_eq_false h] at this

theorem RightRule_any (d k : Int) (w : World) :
    Calls Try.prog 20 #[.agg #[.int .i64 d, .int .i64 k]] w fun e w' => e = .returned (.bool (ruleB d k)) ∧ Below w.heap.size w w' := by
  have hb0 := ext_alloc w (.cells #[.int .i64 d, .int .i64 k] 23)
  unfold ruleB
  by_cases h1 : 0 ≤ d ∧ d ≤ 1440
  · rw [decide_eq_true h1, Bool.true_and]
    generalize hres : decide (0 ≤ k ∧ k ≤ 10080) = res
    have C1 := Lib.hid (In_t h1)
    have Hres := Lib.hid hres
    clear h1 hres
    go_enter Try.func20, Try.ntmps20
    go_wp2_with fail
    refine (C1.out _).mono ?_; rintro e w1 ⟨rfl, rfl⟩
    go_wp2_with fail
    refine (In_any _ _ _ _).mono ?_; rintro e w1 ⟨rfl, rfl⟩
    rw [Hres.out]
    go_wp2
    go_ret
    exact ⟨rfl, hb0⟩
  · rw [decide_eq_false h1, Bool.false_and]
    have C1 := Lib.hid (In_f h1)
    clear h1
    go_enter Try.func20, Try.ntmps20
    go_wp2_with fail
    refine (C1.out _).mono ?_; rintro e w1 ⟨rfl, rfl⟩
    go_wp2
    go_ret
    exact ⟨rfl, hb0⟩

def btwB (hi : Int) (l : List Int) : Bool := l.all fun x => decide (0 ≤ x ∧ x ≤ hi)
set_option maxRecDepth 100000 in
theorem Between_any (A : Option Addr) (n c : Nat) (hi : Int) (l : List Int) (w : World) (hn : l.length = n) (hm : n ≤ 1000000000) (hd : Cells w A 1 encI l) :
    Calls Try.prog 21 #[.slice A n c, .int .i64 hi] w fun e w' => e = .returned (.bool (btwB hi l)) ∧ Below w.heap.size w w' := by
  generalize hres : btwB hi l = res
  have Hres := Lib.hid hres
  clear hres
  go_enter Try.func21, Try.ntmps21
  go_wp2
  go_loopw [5] (fun x wr => ∃ k : Nat, x = .int .i64 k ∧ k ≤ n ∧ Hid (btwB hi (l.drop k) = res) ∧ Below w.heap.size w wr) (fun x _ => n - (intOf x).toNat)
  case atStart => exact ⟨0, rfl, by omega, Lib.hid (by simpa using Hres.out), Below.refl _ _⟩
  case round =>
    obtain ⟨k, rfl, hk, Hk, hb⟩ := hrel
    by_cases hlt : k < n
    · have hlt' : (k : Int) < n := by omega
      have hk0 : (0 : Int) ≤ k := by omega
      have k1 : k < l.length := by rw [hn]; exact hlt
      obtain ⟨b1, o1, rfl, -, d1⟩ := (hd.ext hb).at1 k1 rfl
      have hst : btwB hi (l.drop k) = (decide (0 ≤ l[k] ∧ l[k] ≤ hi) && btwB hi (l.drop (k + 1))) := by rw [List.drop_eq_getElem_cons k1]; rfl
      have Hst := Lib.hid hst
      clear hst
      generalize l[k] = x at *
      by_cases hx : 0 ≤ x ∧ x ≤ hi
      · have C1 := Lib.hid (In_t hx)
        have Hn := Lib.hid (show btwB hi (l.drop (k + 1)) = res by rw [← Hk.out, Hst.out, decide_eq_true hx, Bool.true_and])
        clear hx
        go_wp2_with fail
        refine (C1.out _).mono ?_; rintro e w1 ⟨rfl, rfl⟩
        go_wp2
        go_roundw
        case rel => exact ⟨k + 1, by go_num, by omega, Hn, hb⟩
        case measure => simp [intOf]; omega
      · have C1 := Lib.hid (In_f hx)
        have Hr := Lib.hid (show res = false by rw [← Hk.out, Hst.out, decide_eq_false hx, Bool.false_and])
        clear hx
        go_wp2_with fail
        refine (C1.out _).mono ?_; rintro e w1 ⟨rfl, rfl⟩
        go_wp2
        go_ret
        exact ⟨ret_congr (bool_congr Hr.out.symm), hb⟩
    · obtain rfl : k = n := by omega
      have Hr := Lib.hid (show res = true by rw [← Hk.out, List.drop_of_length_le (by omega)]; rfl)
      go_wp2
      go_ret
      exact ⟨ret_congr (bool_congr Hr.out.symm), hb⟩
end Go.Proofs.Ytopfhinnamhoiaa

/- Arguments opened to data. -/
namespace Go.Proofs.Ytopfhinnamhoiaa
open Go.ChangeShapes Go.WideShapes Go.ChangeAt Go.RowKit Go.Bs

theorem ownK : ownKnob Try.prog.godebug = none := by kernel_rfl
theorem laidK : laidOutB Try.prog = true := by kernel_rfl
/-- A slice of ints that came in. -/
theorem ints_in {H : Type} {enc : TypeId × Value → H} {w : World} {base fuel : Nat} {spare : Nat → Bool} {held : Bool} {v : Value} {x : DataW H × List MemPlace} (h : DataW.trod enc Try.prog w base spare held fuel 24 [v] = some x) :
    ∃ A n c l, v = .slice A n c ∧ l.length = n ∧ n ≤ c ∧ c ≤ maxLen ∧ Cells w A 1 encI l := by
  rcases open_ints Try.underlying24 Try.underlying3 (by kernel_rfl) h with ⟨hcs, _⟩ | ⟨a, l, c, zs, hcs, _, hl, hm, hz, _, hcell, hwz⟩
  · simp only [List.cons.injEq, and_true] at hcs
    exact ⟨none, 0, 0, [], hcs, rfl, Nat.le_refl _, by unfold maxLen; omega, Cells.nil⟩
  · simp only [List.cons.injEq, and_true] at hcs
    have hlz : l ≤ zs.length := by rw [hz]; split <;> omega
    refine ⟨some a, l, c, zs.take l, hcs, by simp; omega, hl, hm, fun i y hi => ?_⟩
    have hil : i < l := by
      have := (List.getElem?_eq_some_iff.1 hi).1
      simp at this; omega
    have hc := hcell i (by omega)
    obtain ⟨b, off, spot⟩ := a
    have hspot : spot = none := by
      simpa [Addr.add] using World.cell?_spot (hcell 0 (by omega))
    subst hspot
    refine ⟨b, off, rfl, fun j u hj => ?_⟩
    rcases j with _ | j
    · simp only [encI, List.getElem?_cons_zero, Option.some.injEq] at hj
      subst hj
      have hy : zs.getD i 0 = y := by
        rw [List.getElem?_take] at hi
        rw [if_pos hil] at hi
        simp [hi]
      rw [hy] at hc
      have h2 : (⟨b, off, none⟩ : Addr).add i = ⟨b, off + i, none⟩ := by
        unfold Addr.add
        split
        · rename_i h0; subst h0; rfl
        · rfl
      rw [h2] at hc
      simpa using hc
    · simp [encI] at hj
end Go.Proofs.Ytopfhinnamhoiaa

/- Arguments that are slices of structs, opened to data. -/
namespace Go.Proofs.Ytopfhinnamhoiaa
open Go.ChangeShapes Go.WideShapes Go.ChangeAt Go.RowKit Go.Bs Go.Deep Go.Yd

/-- A slice that came in, whose elements' cells are known by the type. -/
theorem rows_in {H α : Type} [Inhabited α] {enc : TypeId × Value → H} {w : World} {base fuel sz : Nat} {spare : Nat → Bool} {held : Bool} {v : Value} {x : DataW H × List MemPlace} {t e : TypeId} (ht : Try.prog.underlying t = some (.slice e)) (hC : Try.prog.cellsOf e = sz) (hsz : 0 < sz) (ec : α → List Value)
    (hin : ∀ n cs y, DataW.trod enc Try.prog w base spare held n e cs = some y → ∃ x : α, cs = ec x)
    (h : DataW.trod enc Try.prog w base spare held fuel t [v] = some x) :
    ∃ A n c l, v = .slice A n c ∧ l.length = n ∧ n ≤ c ∧ c ≤ maxLen ∧ Cells w A sz ec l := by
  rcases open_slice ht h with ⟨hcs, _⟩ | ⟨a, len, cap, m, n, D, Pl, hcs, _, hl, hm, hmm, _, hi⟩
  · simp only [List.cons.injEq, and_true] at hcs
    exact ⟨none, 0, 0, [], hcs, rfl, Nat.le_refl _, by unfold maxLen; omega, Cells.nil⟩
  · simp only [List.cons.injEq, and_true] at hcs
    have hlm : len ≤ m := by rw [hmm]; split <;> omega
    rw [hC] at hi
    have key : ∀ i, i < len → ∃ x : α, w.cells? base (a.add (i * sz)) sz = some (ec x) := fun i h' => by
      obtain ⟨cs', h1, h2⟩ := hi i (by omega)
      obtain ⟨x, rfl⟩ := hin _ _ _ h2
      exact ⟨x, h1⟩
    obtain ⟨f, hf⟩ : ∃ f : Nat → α, ∀ i, i < len → w.cells? base (a.add (i * sz)) sz = some (ec (f i)) :=
      ⟨fun i => if h' : i < len then Classical.choose (key i h') else default, fun i h' => by simp only [dif_pos h']; exact Classical.choose_spec (key i h')⟩
    refine ⟨some a, len, cap, (List.range len).map f, hcs, by simp, hl, hm, fun i y hy => ?_⟩
    have hil : i < len := by
      have := (List.getElem?_eq_some_iff.1 hy).1
      simpa using this
    have hy2 : y = f i := by simpa [hil] using hy.symm
    subst hy2
    obtain ⟨_, hcl, hat⟩ := World.cells?_some (hf i hil)
    obtain ⟨b, off, spot⟩ := a
    obtain ⟨_, hcl0, hat0⟩ := World.cells?_some (hf 0 (by omega))
    have hz := hat0 0 hsz
    rw [List.getElem?_eq_getElem (show 0 < (ec (f 0)).length by omega)] at hz
    have hspot : spot = none := by
      simpa [Addr.add] using World.cell?_spot hz
    subst hspot
    refine ⟨b, off, rfl, fun j u hj => ?_⟩
    have hjl : j < sz := by
      have := (List.getElem?_eq_some_iff.1 hj).1
      omega
    have h1 := hat j hjl
    rw [hj, add_add] at h1
    have h2 : (⟨b, off, none⟩ : Addr).add (i * sz + j) = ⟨b, off + (i * sz + j), none⟩ := by
      unfold Addr.add
      split
      · rename_i h0; rw [h0]; rfl
      · rfl
    rw [h2] at h1
    exact h1

section
variable {H : Type} {enc : TypeId × Value → H} {w : World} {base : Nat} {spare : Nat → Bool} {held : Bool}
theorem int1_in {t : TypeId} (ht : Try.prog.underlying t = some (.int .i64)) {n : Nat} {cs : List Value} {y : DataW H × List MemPlace} (h : DataW.trod enc Try.prog w base spare held n t cs = some y) : ∃ k, cs = [.int .i64 k] := by
  obtain ⟨k, h, _⟩ := DataW.trod_int ht h
  exact ⟨k, h⟩
set_option maxRecDepth 100000 in
theorem rng_in {n : Nat} {cs : List Value} {y : DataW H × List MemPlace} (h : DataW.trod enc Try.prog w base spare held n 50 cs = some y) : ∃ x : Rng, cs = Rng.enc x := by
  obtain ⟨xs, m, _, _, hlen, hxl, hg⟩ := DataW.trod_struct Try.underlying50 h
  have hlen2 : cs.length = 2 := hlen.trans (by kernel_rfl)
  have h3 : Try.prog.cellsOf 3 = 1 := by kernel_rfl
  match cs, hlen2 with
  | [c0, c1], _ =>
    match xs, hxl with
    | [y0, y1], _ =>
      have a0 : DataW.trod enc Try.prog w base spare held m 3 (([c0, c1].drop 0).take (Try.prog.cellsOf 3)) = some y0 := hg 0 _ rfl
      have a1 : DataW.trod enc Try.prog w base spare held m 3 (([c0, c1].drop 1).take (Try.prog.cellsOf 3)) = some y1 := hg 1 _ rfl
      rw [h3] at a0 a1
      obtain ⟨k0, e0⟩ := int1_in Try.underlying3 a0
      obtain ⟨k1, e1⟩ := int1_in Try.underlying3 a1
      simp at e0 e1
      subst e0
      subst e1
      exact ⟨⟨k0, k1⟩, rfl⟩
set_option maxRecDepth 100000 in
theorem nd_in {n : Nat} {cs : List Value} {y : DataW H × List MemPlace} (h : DataW.trod enc Try.prog w base spare held n 52 cs = some y) : ∃ x : Nd, cs = Nd.enc x := by
  obtain ⟨xs, m, _, _, hlen, hxl, hg⟩ := DataW.trod_struct Try.underlying52 h
  have hlen2 : cs.length = 5 := hlen.trans (by kernel_rfl)
  have h3 : Try.prog.cellsOf 3 = 1 := by kernel_rfl
  have h50 : Try.prog.cellsOf 50 = 2 := by kernel_rfl
  match cs, hlen2 with
  | [c0, c1, c2, c3, c4], _ =>
    match xs, hxl with
    | [y0, y1, y2, y3], _ =>
      have a0 : DataW.trod enc Try.prog w base spare held m 3 (([c0, c1, c2, c3, c4].drop 0).take (Try.prog.cellsOf 3)) = some y0 := hg 0 _ rfl
      have a1 : DataW.trod enc Try.prog w base spare held m 50 (([c0, c1, c2, c3, c4].drop 1).take (Try.prog.cellsOf 50)) = some y1 := hg 1 _ rfl
      have a2 : DataW.trod enc Try.prog w base spare held m 3 (([c0, c1, c2, c3, c4].drop 3).take (Try.prog.cellsOf 3)) = some y2 := hg 2 _ rfl
      have a3 : DataW.trod enc Try.prog w base spare held m 3 (([c0, c1, c2, c3, c4].drop 4).take (Try.prog.cellsOf 3)) = some y3 := hg 3 _ rfl
      rw [h3] at a0 a2 a3
      rw [h50] at a1
      obtain ⟨k0, e0⟩ := int1_in Try.underlying3 a0
      obtain ⟨⟨l, u⟩, e1⟩ := rng_in a1
      obtain ⟨k2, e2⟩ := int1_in Try.underlying3 a2
      obtain ⟨k3, e3⟩ := int1_in Try.underlying3 a3
      simp [Rng.enc] at e0 e1 e2 e3
      obtain ⟨e1, e1'⟩ := e1
      subst e0
      subst e1
      subst e1'
      subst e2
      subst e3
      exact ⟨⟨k0, ⟨l, u⟩, k2, k3⟩, rfl⟩
set_option maxRecDepth 100000 in
/-- A slice of nodes that came in. -/
theorem nodes_in {fuel : Nat} {v : Value} {x : DataW H × List MemPlace} (h : DataW.trod enc Try.prog w base spare held fuel 35 [v] = some x) :
    ∃ A n c l, v = .slice A n c ∧ l.length = n ∧ n ≤ c ∧ c ≤ maxLen ∧ Cells w A 5 Nd.enc l :=
  rows_in Try.underlying35 (by kernel_rfl) (by decide) Nd.enc (fun _ _ _ h => nd_in h) h
end
end Go.Proofs.Ytopfhinnamhoiaa
