/- Walk: the grid's small functions; its validity. -/
import Derived.Deep.DeepCutAuto
import Derived.Test.YtopfhinnamhoiaaEnc
import Derived.Test.YtopfhinnamhoiaaSpecG
namespace Go.Proofs.Ytopfhinnamhoiaa
open Go.RowKit Go.Bs Go.Yd Go.Pl Go.Sort

def GdAt (w : World) (A : Option Addr) (g : Gd) : Prop := Cells w A 5 Nd.enc g.nodes
theorem GdAt.ext {w w' : World} {A : Option Addr} {g : Gd} (h : GdAt w A g) (hb : Below w.heap.size w w') : GdAt w' A g := Cells.ext h hb
theorem GdAt.node {w : World} {A : Option Addr} {g : Gd} (h : GdAt w A g) {k : Nat} (hk : k < g.nodes.length) :
    ∃ b off, A = some ⟨b, off, none⟩ ∧ b < w.heap.size ∧ w.cell? ⟨b, off + k * 5, none⟩ = some (.int .i64 (g.node k).parent) ∧ w.cell? ⟨b, off + k * 5 + 1, none⟩ = some (.int .i64 (g.node k).load.lo) ∧ w.cell? ⟨b, off + k * 5 + 2, none⟩ = some (.int .i64 (g.node k).load.hi) ∧ w.cell? ⟨b, off + k * 5 + 3, none⟩ = some (.int .i64 (g.node k).fuse) ∧ w.cell? ⟨b, off + k * 5 + 4, none⟩ = some (.int .i64 (g.node k).sag) :=
  Cells.at5 h hk (by rw [Gd.node_get hk]; rfl)
theorem sz136 : ∀ w, (sizeOf 136).run Try.prog w = .ok 5 w := fun w => by kernel_rfl
theorem sz73 : ∀ w, (sizeOf 73).run Try.prog w = .ok 2 w := fun w => by kernel_rfl

theorem plus_any (a0 a1 b0 b1 x : Int) (w : World) (ha : (0 ≤ a0 ∧ a0 ≤ 1000000000000) ∧ (0 ≤ a1 ∧ a1 ≤ 1000000000000)) (hb : (0 ≤ b0 ∧ b0 ≤ 1000000000000) ∧ (0 ≤ b1 ∧ b1 ≤ 1000000000000)) (hx : 0 ≤ x ∧ x ≤ 1000) :
    Calls Try.prog 103 #[.agg #[.int .i64 a0, .int .i64 a1], .agg #[.int .i64 b0, .int .i64 b1], .int .i64 x] w fun e w' => e = .returned (.agg #[.int .i64 (a0 + x * b0), .int .i64 (a1 + x * b1)]) ∧ Below w.heap.size w w' := by
  have h1 := mul_bd hx.1 hx.2 hb.1.1 hb.1.2
  have h2 := mul_bd hx.1 hx.2 hb.2.1 hb.2.2
  generalize hr0 : a0 + x * b0 = r0
  generalize hr1 : a1 + x * b1 = r1
  have Hr0 := Lib.hid hr0
  have Hr1 := Lib.hid hr1
  clear hr0 hr1
  go_enter Try.func103, Try.ntmps103
  go_wp2
  rw [Hr0.out, Hr1.out]
  refine bodyPost_ret (v := .agg #[.int .i64 r0, .int .i64 r1]) (by simp [results, Try.results103, go_sem]) rfl ?_
  exact ⟨rfl, ((Below.refl _ _).alloc (Nat.le_refl _) _ |>.alloc (by simp) _).alloc (by simp; omega) _⟩

theorem limit_any (g : Gd) (A : Option Addr) (n cap : Nat) (i : Int) (w : World) :
    Calls Try.prog 79 #[.agg #[.slice A n cap, .int .i64 g.limit], .int .i64 i] w fun e w' => e = .returned (.int .i64 g.limit) ∧ Below w.heap.size w w' := by
  go_enter Try.func79, Try.ntmps79
  go_wp2
  go_ret
  exact ⟨rfl, ext_alloc _ _⟩

def Gd.fuseOf (g : Gd) (i : Nat) : Int := if i = 0 then 1000000000000 else (g.node i).fuse
theorem fuse_any (g : Gd) (A : Option Addr) (n cap : Nat) (i : Nat) (w : World) (hi : i < g.nodes.length) (hn : g.nodes.length = n) (hd : GdAt w A g) :
    Calls Try.prog 78 #[.agg #[.slice A n cap, .int .i64 g.limit], .int .i64 i] w fun e w' => e = .returned (.int .i64 (Gd.fuseOf g i)) ∧ Below w.heap.size w w' := by
  obtain ⟨b, off, rfl, hb, c0, c1, c2, c3, c4⟩ := hd.node hi
  have hin : (0 : Int) ≤ (i : Int) ∧ (i : Int) < (n : Int) := by omega
  generalize hres : Gd.fuseOf g i = res
  have Hres := Lib.hid hres
  clear hres
  by_cases h0 : i = 0
  · subst h0
    go_enter Try.func78, Try.ntmps78
    go_wp2
    go_ret
    exact ⟨ret_congr (int_congr (by rw [← Hres.out]; rfl)), ext_alloc _ _⟩
  · have h0' : ((i : Int) == 0) = false := by simp; omega
    have H0 := Lib.hid h0
    clear h0
    go_enter Try.func78, Try.ntmps78
    go_wp2
    go_ret
    exact ⟨ret_congr (int_congr (by rw [← Hres.out]; unfold Gd.fuseOf; rw [if_neg H0.out])), ext_alloc _ _⟩

set_option maxRecDepth 100000 in
set_option maxHeartbeats 4000000 in
theorem gvalid_any (g : Gd) (A : Option Addr) (n cap : Nat) (w : World) (hn : g.nodes.length = n) (hm : n ≤ 9223372036854775807) (hd : GdAt w A g) :
    Calls Try.prog 75 #[.agg #[.slice A n cap, .int .i64 g.limit]] w fun e w' => e = .returned (.bool g.okB) ∧ Below w.heap.size w w' := by
  have hb0 := ext_alloc w (.cells #[.slice A n cap, .int .i64 g.limit] 43)
  generalize hres : g.okB = res
  have Hres := Lib.hid hres
  clear hres
  by_cases h1 : (1 : Int) ≤ n ∧ (n : Int) ≤ 30
  · by_cases h2 : 0 ≤ g.limit ∧ g.limit ≤ 1000000000000
    · have hok : g.allB n 0 = res := by rw [← Hres.out]; unfold Gd.okB; rw [hn, decide_eq_true h1, decide_eq_true h2]; rfl
      have Hok := Lib.hid hok
      have hn30 := h1.2
      have C1 := Lib.hid (within_t h1)
      have C2 := Lib.hid (within_t h2)
      clear h1 h2 hok
      go_enter Try.func75, Try.ntmps75
      go_wp2_with fail
      refine (C1.out _).mono ?_; rintro e w1 ⟨rfl, rfl⟩
      go_wp2_with fail
      refine (C2.out _).mono ?_; rintro e w1 ⟨rfl, rfl⟩
      go_wp2
      clear C1 C2
      go_loopw [20] (fun x wr => ∃ i k, x = .int .i64 (i : Nat) ∧ Hid (i + k = n) ∧ i ≤ n ∧ Hid (g.allB k i = res) ∧ Below w.heap.size w wr) (fun x _ => (n - intOf x).toNat)
      case atStart => exact ⟨0, n, rfl, Lib.hid (by omega), by omega, Hok, hb0⟩
      case round =>
        clear hb0
        obtain ⟨i, k, rfl, Hk, hin, Ha, hb⟩ := hrel
        by_cases hlt : i < n
        · have hlt' : (i : Int) < n := by omega
          have hi0 : (0 : Int) ≤ i := by omega
          obtain ⟨b, off, rfl, -, c0, c1, c2, c3, c4⟩ := (hd.ext hb).node (k := i) (by omega)
          have hk1 : g.allB k i = (ndB i (g.node i) && g.allB (k - 1) (i + 1)) := by
            obtain ⟨k', rfl⟩ : ∃ k', k = k' + 1 := ⟨k - 1, by have := Hk.out; omega⟩
            rfl
          have Hk1 := Lib.hid hk1
          clear hk1
          have m0 := cell_lt c0
          go_upto_region 6 with fail
          have hb2 : Below w.heap.size w (wr.alloc (.cells #[.int .i64 (g.node i).parent, .int .i64 (g.node i).load.lo, .int .i64 (g.node i).load.hi, .int .i64 (g.node i).fuse, .int .i64 (g.node i).sag] 136)) := ext_trans hb (ext_alloc _ _)
          have hbs : wr.heap.size < (wr.alloc (.cells #[.int .i64 (g.node i).parent, .int .i64 (g.node i).load.lo, .int .i64 (g.node i).load.hi, .int .i64 (g.node i).fuse, .int .i64 (g.node i).sag] 136)).heap.size := by simp
          have x0 : (wr.alloc (.cells #[.int .i64 (g.node i).parent, .int .i64 (g.node i).load.lo, .int .i64 (g.node i).load.hi, .int .i64 (g.node i).fuse, .int .i64 (g.node i).sag] 136)).cell? ⟨wr.heap.size, 0, none⟩ = some (.int .i64 (g.node i).parent) := by simp
          have x1 : (wr.alloc (.cells #[.int .i64 (g.node i).parent, .int .i64 (g.node i).load.lo, .int .i64 (g.node i).load.hi, .int .i64 (g.node i).fuse, .int .i64 (g.node i).sag] 136)).cell? ⟨wr.heap.size, 1, none⟩ = some (.int .i64 (g.node i).load.lo) := by simp
          have x2 : (wr.alloc (.cells #[.int .i64 (g.node i).parent, .int .i64 (g.node i).load.lo, .int .i64 (g.node i).load.hi, .int .i64 (g.node i).fuse, .int .i64 (g.node i).sag] 136)).cell? ⟨wr.heap.size, 2, none⟩ = some (.int .i64 (g.node i).load.hi) := by simp
          have x3 : (wr.alloc (.cells #[.int .i64 (g.node i).parent, .int .i64 (g.node i).load.lo, .int .i64 (g.node i).load.hi, .int .i64 (g.node i).fuse, .int .i64 (g.node i).sag] 136)).cell? ⟨wr.heap.size, 3, none⟩ = some (.int .i64 (g.node i).fuse) := by simp
          have x4 : (wr.alloc (.cells #[.int .i64 (g.node i).parent, .int .i64 (g.node i).load.lo, .int .i64 (g.node i).load.hi, .int .i64 (g.node i).fuse, .int .i64 (g.node i).sag] 136)).cell? ⟨wr.heap.size, 4, none⟩ = some (.int .i64 (g.node i).sag) := by simp
          generalize wr.alloc (.cells #[.int .i64 (g.node i).parent, .int .i64 (g.node i).load.lo, .int .i64 (g.node i).load.hi, .int .i64 (g.node i).fuse, .int .i64 (g.node i).sag] 136) = W at *
          clear c0 c1 c2 c3 c4 m0
          generalize hnd : g.node i = d at *
          have Hnd := Lib.hid hnd
          clear hnd
          go_cut [5] (fun z W' => z = .bool (ndIn i d) ∧ W' = W)
          case first =>
            by_cases p1 : (0 : Int) ≤ d.parent ∧ d.parent ≤ (i : Int) - 1
            · by_cases p2 : (0 : Int) ≤ d.fuse ∧ d.fuse ≤ 10000000
              · have hv : ndIn i d = decide ((0 : Int) ≤ d.sag ∧ d.sag ≤ 1000) := by unfold ndIn; rw [decide_eq_true p1, decide_eq_true p2]; rfl
                have Hv := Lib.hid hv
                have C1 := Lib.hid (within_t p1)
                have C2 := Lib.hid (within_t p2)
                clear p1 p2 hv
                go_wp2_with fail
                refine (C1.out _).mono ?_; rintro e w1 ⟨rfl, rfl⟩
                go_wp2_with fail
                refine (C2.out _).mono ?_; rintro e w1 ⟨rfl, rfl⟩
                go_wp2_with fail
                refine (within_any _ _ _ _).mono ?_; rintro e w1 ⟨rfl, rfl⟩
                go_wp2
                go_meet
                case rel => exact ⟨bool_congr (by rw [Hv.out, Bool.decide_and]), rfl⟩
              · have hv : ndIn i d = false := by unfold ndIn; rw [decide_eq_false p2]; simp
                have Hv := Lib.hid hv
                have C1 := Lib.hid (within_t p1)
                have C2 := Lib.hid (within_f p2)
                clear p1 p2 hv
                go_wp2_with fail
                refine (C1.out _).mono ?_; rintro e w1 ⟨rfl, rfl⟩
                go_wp2_with fail
                refine (C2.out _).mono ?_; rintro e w1 ⟨rfl, rfl⟩
                go_wp2
                go_meet
                case rel => exact ⟨bool_congr Hv.out.symm, rfl⟩
            · have hv : ndIn i d = false := by unfold ndIn; rw [decide_eq_false p1]; simp
              have Hv := Lib.hid hv
              have C1 := Lib.hid (within_f p1)
              clear p1 hv
              go_wp2_with fail
              refine (C1.out _).mono ?_; rintro e w1 ⟨rfl, rfl⟩
              go_wp2
              go_meet
              case rel => exact ⟨bool_congr Hv.out.symm, rfl⟩
          case rest =>
            obtain ⟨rfl, rfl⟩ := hcut
            go_upto_if 41 with fail
            go_cut [5] (fun z W' => z = .bool (ndSel i d) ∧ W' = wc)
            case first =>
              by_cases hi : i = 0
              · have Hi := Lib.hid hi
                have hi' : ((i : Int) == 0) = true := by simp [hi]
                clear hi
                cases p1 : (d.parent == -1)
                · have Hv := Lib.hid (show ndRoot d = false by unfold ndRoot; rw [p1]; rfl)
                  go_wp2
                  go_meet
                  case rel => exact ⟨bool_congr (by unfold ndSel; rw [if_pos Hi.out, Hv.out]), rfl⟩
                · cases p2 : (d.fuse == 0)
                  · have Hv := Lib.hid (show ndRoot d = false by unfold ndRoot; rw [p1, p2]; rfl)
                    go_wp2
                    go_meet
                    case rel => exact ⟨bool_congr (by unfold ndSel; rw [if_pos Hi.out, Hv.out]), rfl⟩
                  · have Hv := Lib.hid (show ndRoot d = (d.sag == 0) by unfold ndRoot; rw [p1, p2]; rfl)
                    go_wp2
                    go_meet
                    case rel => exact ⟨bool_congr (by unfold ndSel; rw [if_pos Hi.out, Hv.out]), rfl⟩
              · have Hi := Lib.hid hi
                have hi' : ((i : Int) == 0) = false := by simp; omega
                clear hi
                go_wp2
                go_meet
                case rel => exact ⟨bool_congr (by unfold ndSel; rw [if_neg Hi.out]), rfl⟩
            case rest =>
              obtain ⟨rfl, rfl⟩ := hcut
              go_upto_region 9 with fail
              go_cut [5, 77] (fun _ z W' => z = .bool (!ndB i d) ∧ W' = wc)
              case first =>
                have Hv := Lib.hid (show ndB i d = (ndSel i d && ndLoad d) from rfl)
                cases hq : ndSel i d
                · rw [hq] at Hv
                  clear hq
                  go_wp2
                  go_meet
                  case rel => exact ⟨bool_congr (by rw [Hv.out]; rfl), rfl⟩
                · rw [hq] at Hv
                  clear hq
                  by_cases p1 : 0 ≤ d.load.lo
                  · by_cases p2 : d.load.lo ≤ d.load.hi
                    · have Hl := Lib.hid (show ndLoad d = decide (d.load.hi ≤ 1000000) by unfold ndLoad; rw [decide_eq_true p1, decide_eq_true p2]; rfl)
                      go_wp2
                      go_meet
                      case rel => exact ⟨bool_congr (by rw [Hv.out, Hl.out]; by_cases hh : d.load.hi ≤ 1000000 <;> simp [hh] <;> omega), rfl⟩
                    · have Hl := Lib.hid (show ndLoad d = false by unfold ndLoad; rw [decide_eq_false p2]; simp)
                      have p2' : d.load.hi < d.load.lo := by omega
                      go_wp2
                      go_meet
                      case rel => exact ⟨bool_congr (by rw [Hv.out, Hl.out]; rfl), rfl⟩
                  · have Hl := Lib.hid (show ndLoad d = false by unfold ndLoad; rw [decide_eq_false p1]; rfl)
                    have p1' : d.load.lo < 0 := by omega
                    go_wp2
                    go_meet
                    case rel => exact ⟨bool_congr (by rw [Hv.out, Hl.out]; rfl), rfl⟩
              case rest =>
                obtain ⟨rfl, rfl⟩ := hcut
                clear x0 x1 x2 x3 x4
                cases hq : ndB i d
                · have hr : res = false := by rw [← Ha.out, Hk1.out, hq]; rfl
                  have Hr := Lib.hid hr
                  clear hq hr
                  go_wp2
                  go_ret
                  exact ⟨ret_congr (bool_congr Hr.out.symm), hb2⟩
                · have Hr := Lib.hid (show g.allB (k - 1) (i + 1) = res by rw [← Ha.out, Hk1.out, hq]; rfl)
                  clear hq
                  go_wp2
                  go_roundw
                  case rel => exact ⟨i + 1, k - 1, by go_num, Lib.hid (by have := Hk.out; omega), by omega, Hr, hb2⟩
                  case measure => simp [intOf]; omega
        · have hr : res = true := by rw [← Ha.out, show k = 0 by have := Hk.out; omega]; rfl
          have Hr := Lib.hid hr
          clear hr
          go_wp2
          go_ret
          exact ⟨ret_congr (bool_congr Hr.out.symm), hb⟩
    · have hr : res = false := by rw [← Hres.out]; unfold Gd.okB; rw [decide_eq_false h2]; simp
      subst hr
      have C1 := Lib.hid (within_t h1)
      have C2 := Lib.hid (within_f h2)
      clear h1 h2
      go_enter Try.func75, Try.ntmps75
      go_wp2_with fail
      refine (C1.out _).mono ?_; rintro e w1 ⟨rfl, rfl⟩
      go_wp2_with fail
      refine (C2.out _).mono ?_; rintro e w1 ⟨rfl, rfl⟩
      go_wp2
      go_ret
      exact ⟨rfl, hb0⟩
  · have hr : res = false := by rw [← Hres.out]; unfold Gd.okB; rw [hn, decide_eq_false h1]; rfl
    subst hr
    have C1 := Lib.hid (within_f h1)
    clear h1
    go_enter Try.func75, Try.ntmps75
    go_wp2_with fail
    refine (C1.out _).mono ?_; rintro e w1 ⟨rfl, rfl⟩
    go_wp2
    go_ret
    exact ⟨rfl, hb0⟩
end Go.Proofs.Ytopfhinnamhoiaa
