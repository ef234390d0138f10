/- Walk: Yard.valid. -/
import Derived.Laws.StructEq
import Derived.Test.YtopfhinnamhoiaaAllA
import Derived.Test.YtopfhinnamhoiaaMapA
namespace Go.Proofs.Ytopfhinnamhoiaa
open Go.RowKit Go.Bs Go.Yd Go.Pl Go.Sort

theorem run_store_func (P : Program) (w : World) (a : Addr) (m : Mode) (f : Fn) (x y : Array Value) : (store a (.func f x y) m).run P w = stored P w a (.func f x y) m := run_store P w a _ m rfl
theorem run_store_map (P : Program) (w : World) (a : Addr) (m : Mode) (r : Option Nat) : (store a (.map r) m).run P w = stored P w a (.map r) m := run_store P w a _ m rfl
attribute [local go_sem] run_store_func run_store_map
theorem szc3 : ∀ w, (sizeOf 3).run Try.prog w = .ok 1 w := fun w => by kernel_rfl
theorem eqA0 (d : Nat) (a b c e : Int) (w : World) : (Op.equalIn (d + 1 + 1) 64 (.agg #[.int .i64 a, .int .i64 b]) (.agg #[.int .i64 c, .int .i64 e])).run Try.prog w = .ok (a == c && b == e) w := by
  have h1 : ∀ x y w, (Op.equalIn (d + 1) 3 (.int .i64 x) (.int .i64 y)).run Try.prog w = .ok (x == y) w := fun x y w => run_equalIn_int w d 3 .i64 .i64 x y Try.underlying3
  have p0 : ∀ a b w, (part 3 #[.int .i64 a, .int .i64 b] 0).run Try.prog w = .ok (.int .i64 a) w := fun a b w => by kernel_rfl
  have p1 : ∀ a b w, (part 3 #[.int .i64 a, .int .i64 b] 1).run Try.prog w = .ok (.int .i64 b) w := fun a b w => by kernel_rfl
  unfold Op.equalIn
  simp only [Sem.run_bind, run_underlying Try.underlying64, Result.andThen_ok, szc3]
  cases h : (a == c) <;> cases h' : (b == e) <;> simp [Std.Legacy.Range.forIn_eq_forIn_range', List.range', p0, p1, h1, h, h', Result.andThen]
theorem eqA (a b c e : Int) (w : World) : (Op.equalIn 10000 64 (.agg #[.int .i64 a, .int .i64 b]) (.agg #[.int .i64 c, .int .i64 e])).run Try.prog w = .ok (a == c && b == e) w := eqA0 9998 a b c e w
theorem sz64 : ∀ w, (sizeOf 64).run Try.prog w = .ok 2 w := fun w => by kernel_rfl
theorem eqG : Try.prog.eqGuardType Try.prog.depth 64 = false := by kernel_rfl

def boxB (x : Int) : Bool := decide (0 ≤ x ∧ x ≤ 100000)
def foeB (n : Int) (p : Int × Int) : Bool := decide (0 ≤ p.1 ∧ p.1 ≤ n - 1) && (decide (0 ≤ p.2 ∧ p.2 ≤ n - 1) && decide (p.1 ≠ p.2))
def Yrd.okB (y : Yrd) : Bool := decide ((1 : Int) ≤ y.boxes.length ∧ (y.boxes.length : Int) ≤ 8) && (y.boxes.all boxB && (decide ((y.needs.length : Int) ≤ 8) && (y.needs.all boxB && (decide ((y.foes.length : Int) ≤ 20) && y.foes.all (foeB y.needs.length)))))
/-- How a yard lies. -/
structure YdAt (w : World) (y : Yrd) (A1 A2 A3 : Option Addr) : Prop where
  b : Cells w A1 1 encI y.boxes
  n : Cells w A2 1 encI y.needs
  f : Cells w A3 2 encP y.foes
theorem YdAt.ext {w w' : World} {y : Yrd} {A1 A2 A3 : Option Addr} (h : YdAt w y A1 A2 A3) (hb : Below w.heap.size w w') : YdAt w' y A1 A2 A3 := ⟨h.b.ext hb, h.n.ext hb, h.f.ext hb⟩

theorem box_ok (l : List Int) (w : World) : PredB Try.prog 104 #[] (Value.int .i64) boxB w l := by
  intro W x hx hb
  show Calls Try.prog 104 #[.int .i64 x] W fun e w' => e = .returned (.bool (boxB x)) ∧ Below W.heap.size W w'
  generalize hres : boxB x = res
  have Hres := Lib.hid (show decide (0 ≤ x ∧ x ≤ 100000) = res from hres)
  clear hres
  go_enter Try.func104, Try.ntmps104
  go_wp2_with fail
  refine (within_any _ _ _ _).mono ?_; rintro e w1 ⟨rfl, rfl⟩
  rw [Hres.out]
  go_wp2
  go_ret
  exact ⟨rfl, ext_refl _⟩

theorem idx_any (n : Nat) (c : Nat) (A : Option Addr) (b : Nat) (x : Int) (w : World) (hn : n ≤ 9223372036854775807) (hx : w.cell? ⟨b, 1, none⟩ = some (.slice A n c)) :
    Calls Try.prog 105 #[.int .i64 x, .pointer (some ⟨b, 0, none⟩)] w fun e w' => e = .returned (.bool (decide (0 ≤ x ∧ x ≤ (n : Int) - 1))) ∧ w = w' := by
  generalize hres : decide (0 ≤ x ∧ x ≤ (n : Int) - 1) = res
  have Hres := Lib.hid hres
  clear hres
  go_enter Try.func105, Try.ntmps105
  go_wp2_with fail
  refine (within_any _ _ _ _).mono ?_; rintro e w1 ⟨rfl, rfl⟩
  rw [Hres.out]
  go_wp2
  go_ret
  exact ⟨rfl, rfl⟩

theorem foe_ok (n : Nat) (c : Nat) (A : Option Addr) (b bx : Nat) (l : List (Int × Int)) (w : World) (hn : n ≤ 9223372036854775807) (hx : w.cell? ⟨b, 1, none⟩ = some (.slice A n c)) (hf : w.cell? ⟨bx, 0, none⟩ = some (.func (.func 105) #[] #[.pointer (some ⟨b, 0, none⟩)])) :
    PredB Try.prog 107 #[.pointer (some ⟨bx, 0, none⟩)] valP (foeB n) w l := by
  intro W p hp hb
  show Calls Try.prog 107 #[.agg #[.int .i64 p.1, .int .i64 p.2], .pointer (some ⟨bx, 0, none⟩)] W fun e w' => e = .returned (.bool (foeB n p)) ∧ Below W.heap.size W w'
  have hx1 := cell_ext hx hb
  have hf1 := cell_ext hf hb
  have m1 := cell_lt hf1
  have eg := enters_of Try.func105 (by kernel_rfl) rfl
  unfold Enters at eg
  have hb0 := ext_alloc W (.cells #[.int .i64 p.1, .int .i64 p.2] 64)
  have C1 := fun x => Lib.hid (idx_any n c A b x _ hn (cell_ext hx1 hb0))
  clear hx hf hb hp
  by_cases h1 : 0 ≤ p.1 ∧ p.1 ≤ (n : Int) - 1
  · by_cases h2 : 0 ≤ p.2 ∧ p.2 ≤ (n : Int) - 1
    · have hv : foeB n p = decide (p.1 ≠ p.2) := by unfold foeB; rw [decide_eq_true h1, decide_eq_true h2]; rfl
      have Hv := Lib.hid hv
      have D1 := C1 p.1
      have D2 := C1 p.2
      rw [decide_eq_true h1] at D1
      rw [decide_eq_true h2] at D2
      clear hv h1 h2 C1
      go_enter Try.func107, Try.ntmps107
      go_wp2_with fail
      refine D1.out.mono ?_; rintro e w1 ⟨rfl, rfl⟩
      go_wp2_with fail
      refine D2.out.mono ?_; rintro e w1 ⟨rfl, rfl⟩
      have hE := eqA
      have hG := eqG
      have hL := sz64
      go_wp2
      go_ret
      exact ⟨ret_congr (bool_congr (by rw [Hv.out]; by_cases h : p.1 = p.2 <;> simp [h])), hb0⟩
    · have hv : foeB n p = false := by unfold foeB; rw [decide_eq_false h2]; simp
      have Hv := Lib.hid hv
      have D1 := C1 p.1
      have D2 := C1 p.2
      rw [decide_eq_true h1] at D1
      rw [decide_eq_false h2] at D2
      clear hv h1 h2 C1
      go_enter Try.func107, Try.ntmps107
      go_wp2_with fail
      refine D1.out.mono ?_; rintro e w1 ⟨rfl, rfl⟩
      go_wp2_with fail
      refine D2.out.mono ?_; rintro e w1 ⟨rfl, rfl⟩
      go_wp2
      go_ret
      exact ⟨ret_congr (bool_congr Hv.out.symm), hb0⟩
  · have hv : foeB n p = false := by unfold foeB; rw [decide_eq_false h1]; simp
    have Hv := Lib.hid hv
    have D1 := C1 p.1
    rw [decide_eq_false h1] at D1
    clear hv h1 C1
    go_enter Try.func107, Try.ntmps107
    go_wp2_with fail
    refine D1.out.mono ?_; rintro e w1 ⟨rfl, rfl⟩
    go_wp2
    go_ret
    exact ⟨ret_congr (bool_congr Hv.out.symm), hb0⟩
set_option maxRecDepth 100000 in
set_option maxHeartbeats 2000000 in
theorem yvalid_any (y : Yrd) (A1 A2 A3 : Option Addr) (n1 n2 n3 c1 c2 c3 : Nat) (w : World) (h1 : y.boxes.length = n1) (h2 : y.needs.length = n2) (h3 : y.foes.length = n3) (m1 : n1 ≤ 9223372036854775807) (m2 : n2 ≤ 9223372036854775807) (m3 : n3 ≤ 9223372036854775807) (hd : YdAt w y A1 A2 A3) :
    Calls Try.prog 80 #[.agg #[.slice A1 n1 c1, .slice A2 n2 c2, .slice A3 n3 c3]] w fun e w' => e = .returned (.bool (Yrd.okB y)) ∧ Below w.heap.size w w' := by
  have hb0 : Below w.heap.size w ((w.alloc (.cells #[.slice A1 n1 c1, .slice A2 n2 c2, .slice A3 n3 c3] 61)).alloc (.cells #[.func (.func 105) #[] #[.pointer (some ⟨w.heap.size, 0, none⟩)]] 125)) := ((Below.refl _ _).alloc (Nat.le_refl _) _).alloc (by simp) _
  have CA := fun W hb => Lib.hid (all_int 104 #[] boxB A1 n1 c1 y.boxes W (enters_of Try.func104 (by kernel_rfl) rfl) h1 m1 (hd.b.ext hb) (box_ok _ _))
  have CB := fun W hb => Lib.hid (all_int 104 #[] boxB A2 n2 c2 y.needs W (enters_of Try.func104 (by kernel_rfl) rfl) h2 m2 (hd.n.ext hb) (box_ok _ _))
  have CC := fun W hb hx hf => Lib.hid (all_pr 107 #[.pointer (some ⟨w.heap.size + 1, 0, none⟩)] (foeB n2) A3 n3 c3 y.foes W (enters_of Try.func107 (by kernel_rfl) rfl) h3 m3 (hd.f.ext hb) (foe_ok n2 c2 A2 w.heap.size (w.heap.size + 1) y.foes W m2 hx hf))
  have hok : Yrd.okB y = (decide ((1 : Int) ≤ n1 ∧ (n1 : Int) ≤ 8) && (y.boxes.all boxB && (decide ((n2 : Int) ≤ 8) && (y.needs.all boxB && (decide ((n3 : Int) ≤ 20) && y.foes.all (foeB n2)))))) := by unfold Yrd.okB; rw [h1, h2, h3]
  rw [hok]
  clear hok hd h1 h2 h3
  generalize y.boxes.all boxB = q2 at *
  generalize y.needs.all boxB = q4 at *
  generalize y.foes.all (foeB n2) = q6 at *
  by_cases p1 : (1 : Int) ≤ n1 ∧ (n1 : Int) ≤ 8
  · have C1 := Lib.hid (within_t p1)
    rw [decide_eq_true p1]
    clear p1
    cases q2
    · rw [show (true && (false && (decide ((n2 : Int) ≤ 8) && (q4 && (decide ((n3 : Int) ≤ 20) && q6))))) = false from rfl]
      clear CB CC
      go_enter Try.func80, Try.ntmps80
      go_wp2_with fail
      refine (C1.out _).mono ?_; rintro e w1 ⟨rfl, rfl⟩
      go_wp2_with fail
      refine (CA _ hb0).out.mono ?_; rintro e w2 ⟨rfl, hb1⟩
      have hb2 := ext_trans hb0 hb1
      have x0 : w2.cell? ⟨w.heap.size, 0, none⟩ = some (.slice A1 n1 c1) := cell_ext (by simp) hb1
      have x1 : w2.cell? ⟨w.heap.size, 1, none⟩ = some (.slice A2 n2 c2) := cell_ext (by simp) hb1
      have x2 : w2.cell? ⟨w.heap.size, 2, none⟩ = some (.slice A3 n3 c3) := cell_ext (by simp) hb1
      have x3 : w2.cell? ⟨w.heap.size + 1, 0, none⟩ = some (.func (.func 105) #[] #[.pointer (some ⟨w.heap.size, 0, none⟩)]) := cell_ext (by simp) hb1
      go_wp2
      go_ret
      exact ⟨rfl, hb2⟩
    · by_cases p3 : (n2 : Int) ≤ 8
      · rw [decide_eq_true p3]
        cases q4
        · rw [show (true && (true && (true && (false && (decide ((n3 : Int) ≤ 20) && q6))))) = false from rfl]
          clear CC
          go_enter Try.func80, Try.ntmps80
          go_wp2_with fail
          refine (C1.out _).mono ?_; rintro e w1 ⟨rfl, rfl⟩
          go_wp2_with fail
          refine (CA _ hb0).out.mono ?_; rintro e w2 ⟨rfl, hb1⟩
          have hb2 := ext_trans hb0 hb1
          have x0 : w2.cell? ⟨w.heap.size, 0, none⟩ = some (.slice A1 n1 c1) := cell_ext (by simp) hb1
          have x1 : w2.cell? ⟨w.heap.size, 1, none⟩ = some (.slice A2 n2 c2) := cell_ext (by simp) hb1
          have x2 : w2.cell? ⟨w.heap.size, 2, none⟩ = some (.slice A3 n3 c3) := cell_ext (by simp) hb1
          have x3 : w2.cell? ⟨w.heap.size + 1, 0, none⟩ = some (.func (.func 105) #[] #[.pointer (some ⟨w.heap.size, 0, none⟩)]) := cell_ext (by simp) hb1
          go_wp2_with fail
          refine (CB _ hb2).out.mono ?_; rintro e w3 ⟨rfl, hb3⟩
          have hb4 := ext_trans hb2 hb3
          have y1 := cell_ext x1 hb3
          have y2 := cell_ext x2 hb3
          have y3 := cell_ext x3 hb3
          clear x0 x1 x2 x3
          go_wp2
          go_ret
          exact ⟨rfl, hb4⟩
        · by_cases p5 : (n3 : Int) ≤ 20
          · rw [decide_eq_true p5]
            rw [show (true && (true && (true && (true && (true && q6))))) = q6 from rfl]
            go_enter Try.func80, Try.ntmps80
            go_wp2_with fail
            refine (C1.out _).mono ?_; rintro e w1 ⟨rfl, rfl⟩
            go_wp2_with fail
            refine (CA _ hb0).out.mono ?_; rintro e w2 ⟨rfl, hb1⟩
            have hb2 := ext_trans hb0 hb1
            have x0 : w2.cell? ⟨w.heap.size, 0, none⟩ = some (.slice A1 n1 c1) := cell_ext (by simp) hb1
            have x1 : w2.cell? ⟨w.heap.size, 1, none⟩ = some (.slice A2 n2 c2) := cell_ext (by simp) hb1
            have x2 : w2.cell? ⟨w.heap.size, 2, none⟩ = some (.slice A3 n3 c3) := cell_ext (by simp) hb1
            have x3 : w2.cell? ⟨w.heap.size + 1, 0, none⟩ = some (.func (.func 105) #[] #[.pointer (some ⟨w.heap.size, 0, none⟩)]) := cell_ext (by simp) hb1
            go_wp2_with fail
            refine (CB _ hb2).out.mono ?_; rintro e w3 ⟨rfl, hb3⟩
            have hb4 := ext_trans hb2 hb3
            have y1 := cell_ext x1 hb3
            have y2 := cell_ext x2 hb3
            have y3 := cell_ext x3 hb3
            clear x0 x1 x2 x3
            go_wp2_with fail
            refine (CC _ hb4 y1 y3).out.mono ?_; rintro e w5 ⟨rfl, hb5⟩
            have hb6 := ext_trans hb4 hb5
            go_wp2
            go_ret
            exact ⟨rfl, hb6⟩
          · rw [decide_eq_false p5]
            rw [show (true && (true && (true && (true && (false && q6))))) = false from rfl]
            have p5' : (20 : Int) < n3 := by omega
            clear p5 CC
            go_enter Try.func80, Try.ntmps80
            go_wp2_with fail
            refine (C1.out _).mono ?_; rintro e w1 ⟨rfl, rfl⟩
            go_wp2_with fail
            refine (CA _ hb0).out.mono ?_; rintro e w2 ⟨rfl, hb1⟩
            have hb2 := ext_trans hb0 hb1
            have x0 : w2.cell? ⟨w.heap.size, 0, none⟩ = some (.slice A1 n1 c1) := cell_ext (by simp) hb1
            have x1 : w2.cell? ⟨w.heap.size, 1, none⟩ = some (.slice A2 n2 c2) := cell_ext (by simp) hb1
            have x2 : w2.cell? ⟨w.heap.size, 2, none⟩ = some (.slice A3 n3 c3) := cell_ext (by simp) hb1
            have x3 : w2.cell? ⟨w.heap.size + 1, 0, none⟩ = some (.func (.func 105) #[] #[.pointer (some ⟨w.heap.size, 0, none⟩)]) := cell_ext (by simp) hb1
            go_wp2_with fail
            refine (CB _ hb2).out.mono ?_; rintro e w3 ⟨rfl, hb3⟩
            have hb4 := ext_trans hb2 hb3
            have y1 := cell_ext x1 hb3
            have y2 := cell_ext x2 hb3
            have y3 := cell_ext x3 hb3
            clear x0 x1 x2 x3
            go_wp2
            go_ret
            exact ⟨rfl, hb4⟩
      · rw [decide_eq_false p3]
        rw [show (true && (true && (false && (q4 && (decide ((n3 : Int) ≤ 20) && q6))))) = false from rfl]
        have p3' : (8 : Int) < n2 := by omega
        clear p3 CB CC
        go_enter Try.func80, Try.ntmps80
        go_wp2_with fail
        refine (C1.out _).mono ?_; rintro e w1 ⟨rfl, rfl⟩
        go_wp2_with fail
        refine (CA _ hb0).out.mono ?_; rintro e w2 ⟨rfl, hb1⟩
        have hb2 := ext_trans hb0 hb1
        have x0 : w2.cell? ⟨w.heap.size, 0, none⟩ = some (.slice A1 n1 c1) := cell_ext (by simp) hb1
        have x1 : w2.cell? ⟨w.heap.size, 1, none⟩ = some (.slice A2 n2 c2) := cell_ext (by simp) hb1
        have x2 : w2.cell? ⟨w.heap.size, 2, none⟩ = some (.slice A3 n3 c3) := cell_ext (by simp) hb1
        have x3 : w2.cell? ⟨w.heap.size + 1, 0, none⟩ = some (.func (.func 105) #[] #[.pointer (some ⟨w.heap.size, 0, none⟩)]) := cell_ext (by simp) hb1
        go_wp2
        go_ret
        exact ⟨rfl, hb2⟩
  · have C1 := Lib.hid (within_f p1)
    rw [decide_eq_false p1]
    rw [Bool.false_and]
    clear p1 CA CB CC
    go_enter Try.func80, Try.ntmps80
    go_wp2_with fail
    refine (C1.out _).mono ?_; rintro e w1 ⟨rfl, rfl⟩
    go_wp2
    go_ret
    exact ⟨rfl, hb0⟩
end Go.Proofs.Ytopfhinnamhoiaa
