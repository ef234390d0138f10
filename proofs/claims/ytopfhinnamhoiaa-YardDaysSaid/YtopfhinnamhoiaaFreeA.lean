/- Walk: free, an iterator over the boxes in which the next animal fits. -/
import Derived.Test.YtopfhinnamhoiaaYardB
import Derived.Test.YtopfhinnamhoiaaGridB
import Derived.Sort.CutIn
import Derived.Test.YtopfhinnamhoiaaScopeIn
namespace Go.Proofs.Ytopfhinnamhoiaa
open Go.RowKit Go.Bs Go.Yd Go.Pl Go.Sort

/-- is one of the animals in the way of the next one, number i, in box p? -/
def clash (ps : List (Nat × Nat)) (i : Nat) (p : Int) : Nat → List Int → Bool
  | _, [] => false
  | j, q :: r => ((q == p) || (decide (-1 ≤ wrap64 (q - p) ∧ wrap64 (q - p) ≤ 1) && decide ((i, j) ∈ ps))) || clash ps i p (j + 1) r
def fits (y : Yrd) (ps : List (Nat × Nat)) (at_ : List Int) (p : Nat) : Bool := decide (y.needs.getD at_.length 0 ≤ y.boxes.getD p 0) && !clash ps at_.length p 0 at_
def freeIx (f : Nat → Bool) (n : Nat) : (k : Nat) → k ≤ n → List (Ix n)
  | 0, _ => []
  | k + 1, h => if f k then freeIx f n k (by omega) ++ [⟨k, by omega⟩] else freeIx f n k (by omega)
theorem freeIx_len (f : Nat → Bool) (n : Nat) : ∀ k h, (freeIx f n k h).length ≤ k
  | 0, _ => by simp [freeIx]
  | k + 1, h => by
    unfold freeIx
    have := freeIx_len f n k (by omega)
    split
    · simp; omega
    · omega

/-- What the iterator reads. s: its box of the yard, the map, the places, the number. -/
structure ItAt (y : Yrd) (A1 A2 A3 V : Option Addr) (n1 n2 n3 c1 c2 c3 m cm bm s : Nat) (ps : List (Nat × Nat)) (at_ : List Int) (W : World) : Prop where
  x0 : W.cell? ⟨s, 0, none⟩ = some (.slice A1 n1 c1)
  x1 : W.cell? ⟨s, 1, none⟩ = some (.slice A2 n2 c2)
  x4 : W.cell? ⟨s + 1, 0, none⟩ = some (.map (some bm))
  x5 : W.cell? ⟨s + 2, 0, none⟩ = some (.slice V m cm)
  x7 : W.cell? ⟨s + 3, 0, none⟩ = some (.int .i64 (m : Int))
  b : Cells W A1 1 encI y.boxes
  n : Cells W A2 1 encI y.needs
  a : Cells W V 1 encI at_
  p : PMap W bm ps
section
variable {y : Yrd} {A1 A2 A3 V : Option Addr} {n1 n2 n3 c1 c2 c3 m cm bm s : Nat} {ps : List (Nat × Nat)} {at_ : List Int} {W W' : World}
theorem ItAt.ext (h : ItAt y A1 A2 A3 V n1 n2 n3 c1 c2 c3 m cm bm s ps at_ W) (hb : Below W.heap.size W W') : ItAt y A1 A2 A3 V n1 n2 n3 c1 c2 c3 m cm bm s ps at_ W' :=
  ⟨cell_ext h.x0 hb, cell_ext h.x1 hb, cell_ext h.x4 hb, cell_ext h.x5 hb, cell_ext h.x7 hb, h.b.ext hb, h.n.ext hb, h.a.ext hb, h.p.ext hb⟩
theorem ItAt.put {B : Nat} {o o' : Obj} {l : Nat} (h : ItAt y A1 A2 A3 V n1 n2 n3 c1 c2 c3 m cm bm s ps at_ W) (hl : B ≤ l) (ho : W.heap[l]? = some o) (hc : o.isCells = false) (hbm : bm < B) : ItAt y A1 A2 A3 V n1 n2 n3 c1 c2 c3 m cm bm s ps at_ (W.putObj l o') := by
  have hg := grownBy_putObj' W l o'
  have key : ∀ (p : Addr) (v : Value), W.cell? p = some v → (W.putObj l o').cell? p = some v := fun p v hv => cell_kept hv hg (fun r e => by cases e; exact ⟨o, ho, hc⟩)
  have keyC : ∀ {α : Type} {sz : Nat} {enc : α → List Value} {L : List α} {A : Option Addr}, Cells W A sz enc L → Cells (W.putObj l o') A sz enc L := fun hC i x hi => by
    obtain ⟨b, off, hA, hcl⟩ := hC i x hi
    exact ⟨b, off, hA, fun j v hj => key _ _ (hcl j v hj)⟩
  refine ⟨key _ _ h.x0, key _ _ h.x1, key _ _ h.x4, key _ _ h.x5, key _ _ h.x7, keyC h.b, keyC h.n, keyC h.a, h.p.same (hg.block bm h.p.lt (fun e => by cases e; omega))⟩
end

set_option maxRecDepth 100000 in
theorem free_any (y : Yrd) (A1 A2 A3 V : Option Addr) (n1 n2 n3 c1 c2 c3 m cm bm : Nat) (w : World) :
    Calls Try.prog 85 #[.agg #[.slice A1 n1 c1, .slice A2 n2 c2, .slice A3 n3 c3], .map (some bm), .slice V m cm] w fun e w' =>
      e = .returned (.func (.func 112) #[] #[.pointer (some ⟨w.heap.size, 0, none⟩), .pointer (some ⟨w.heap.size + 3, 0, none⟩), .pointer (some ⟨w.heap.size + 2, 0, none⟩), .pointer (some ⟨w.heap.size + 1, 0, none⟩)]) ∧
      w' = (((w.alloc (.cells #[.slice A1 n1 c1, .slice A2 n2 c2, .slice A3 n3 c3] 61)).alloc (.cells #[.map (some bm)] 138)).alloc (.cells #[.slice V m cm] 24)).alloc (.cells #[.int .i64 (m : Int)] 3) := by
  go_enter Try.func85, Try.ntmps85
  go_wp2
  go_ret
  exact ⟨rfl, rfl⟩

section
attribute [local go_sem] Oper.semAt_some
set_option maxRecDepth 100000 in
set_option maxHeartbeats 4000000 in
theorem free1_in (y : Yrd) (A1 A2 A3 V : Option Addr) (n1 n2 n3 c1 c2 c3 m cm bm s : Nat) (ps : List (Nat × Nat)) (at_ : List Int) (d l : Nat) (hd : 1 ≤ d)
    (hn1 : y.boxes.length = n1) (hn2 : y.needs.length = n2) (hm : at_.length = m) (hmn : m < n2) (h8 : n2 ≤ 8) (h81 : n1 ≤ 1000) (hcn : n2 ≤ c2)
    (J Jx : List (Ix n1) → World → Prop)
    (hY : ∀ pre x W, J pre W → pre.length < n1 → YieldAt Fence.wide (d - 1) Try.prog l #[.int .i64 (x.1 : Int)] W fun e W' =>
      (e = .returned (.bool true) ∧ J (pre ++ [x]) W' ∧ (ItAt y A1 A2 A3 V n1 n2 n3 c1 c2 c3 m cm bm s ps at_ W → ItAt y A1 A2 A3 V n1 n2 n3 c1 c2 c3 m cm bm s ps at_ W')) ∨ (e = .returned (.bool false) ∧ Jx (pre ++ [x]) W'))
    (W : World) (hI : ItAt y A1 A2 A3 V n1 n2 n3 c1 c2 c3 m cm bm s ps at_ W) (h0 : J [] W) :
    CallsIn Fence.wide d Try.prog 112 #[.func (.yield l) #[] #[], .pointer (some ⟨s, 0, none⟩), .pointer (some ⟨s + 3, 0, none⟩), .pointer (some ⟨s + 2, 0, none⟩), .pointer (some ⟨s + 1, 0, none⟩)] W fun e W' => (∃ v, e = .returned v) ∧
      ((∃ ys, ys = freeIx (fits y ps at_) n1 n1 (Nat.le_refl _) ∧ J ys W') ∨ (∃ pre, (∃ k, ∃ h : k ≤ n1, pre = freeIx (fits y ps at_) n1 k h) ∧ Jx pre W')) := by
  refine callsIn_of_wp Try.func112 rfl trivial ?_ rfl
  simp only [Try.ntmps112, List.size_toArray, List.length_cons, List.length_nil, Nat.reduceAdd, Nat.reduceSub, Array.replicate_succ, Array.replicate_zero, List.push_toArray, List.append_toArray, List.nil_append, List.cons_append]
  have x0 := hI.x0
  refine wpIn_scope_straight ?_
  gi_wp2
  refine wpIn_label ?_
  gi_wp2
  gi_loopw [13] (fun x wr => ∃ k : Nat, ∃ h : k ≤ n1, x = .int .i64 k ∧ J (freeIx (fits y ps at_) n1 k h) wr ∧ ItAt y A1 A2 A3 V n1 n2 n3 c1 c2 c3 m cm bm s ps at_ wr) (fun x _ => n1 - (intOf x).toNat)
  case atStart => exact ⟨0, by omega, rfl, h0, hI⟩
  case round =>
    clear hI h0 x0
    obtain ⟨k, hk, rfl, hJ, hI⟩ := hrel
    by_cases hlt : k < n1
    · have hlt' : (k : Int) < n1 := by omega
      have hk0 : (0 : Int) ≤ k := by omega
      have hm0 : (0 : Int) ≤ m := by omega
      have hm1 : (m : Int) < n2 := by omega
      obtain ⟨b, off, rfl, -, d0⟩ := hI.b.at1 (k := k) (by omega) rfl
      obtain ⟨b2, off2, rfl, -, d1⟩ := hI.n.at1 (k := m) (by omega) rfl
      have hnx : freeIx (fits y ps at_) n1 (k + 1) hlt = if fits y ps at_ k then freeIx (fits y ps at_) n1 k hk ++ [⟨k, hlt⟩] else freeIx (fits y ps at_) n1 k hk := rfl
      have hfit : fits y ps at_ k = (decide (y.needs[m] ≤ y.boxes[k]) && !clash ps m k 0 at_) := by
        unfold fits
        rw [hm]
        simp [hn1, hn2, hlt, hmn]
      have Hnx := Lib.hid hnx
      have Hfit := Lib.hid hfit
      clear hnx hfit
      generalize y.needs[m] = nd at *
      generalize y.boxes[k] = bx at *
      have x1 := hI.x1
      have x4 := hI.x4
      have x5 := hI.x5
      have x7 := hI.x7
      by_cases hsm : bx < nd
      · have hf : fits y ps at_ k = false := by rw [Hfit.out, decide_eq_false (by omega)]; rfl
        have Hf := Lib.hid hf
        clear hf
        gi_wp2
        go_roundw
        case rel => exact ⟨k + 1, hlt, by go_num, by rw [Hnx.out, Hf.out]; exact hJ, hI⟩
        case measure => simp [intOf]; omega
      · have hsm' : nd ≤ bx := by omega
        have hf : fits y ps at_ k = !clash ps m k 0 at_ := by rw [Hfit.out, decide_eq_true hsm']; rfl
        have Hf := Lib.hid hf
        clear hf
        gi_wp2
        generalize hcl : clash ps m k 0 at_ = res at *
        have Hcl := Lib.hid (show clash ps m k 0 (at_.drop 0) = res by rw [List.drop_zero]; exact hcl)
        clear hcl
        gi_loopw [27] (fun x wr' => ∃ j : Nat, x = .int .i64 j ∧ j ≤ m ∧ wr' = wr ∧ Hid (clash ps m k j (at_.drop j) = res)) (fun x _ => m - (intOf x).toNat)
        case atStart => exact ⟨0, rfl, by omega, rfl, Hcl⟩
        case round =>
          obtain ⟨j, rfl, hj, rfl, Hj⟩ := hrel
          by_cases hjm : j < m
          · have hjm' : (j : Int) < m := by omega
            have hj0 : (0 : Int) ≤ j := by omega
            have hja : j < at_.length := by rw [hm]; exact hjm
            obtain ⟨b3, off3, rfl, -, e0⟩ := hI.a.at1 (k := j) hja rfl
            have hst : clash ps m k j (at_.drop j) = (((at_[j] == (k : Int)) || (decide (-1 ≤ wrap64 (at_[j] - k) ∧ wrap64 (at_[j] - k) ≤ 1) && decide ((m, j) ∈ ps))) || clash ps m k (j + 1) (at_.drop (j + 1))) := by
              rw [List.drop_eq_getElem_cons hja]; rfl
            have hlk := hI.p.look (p := (m, j)) (by omega) (by simp; omega)
            change (Instr.lookup 138 (.map (some bm)) (.agg #[.int .i64 (m : Int), .int .i64 (j : Int)]) false).run Try.prog wr = .ok (.bool (decide ((m, j) ∈ ps))) wr at hlk
            have Hst := Lib.hid hst
            have Hlk := Lib.hid hlk
            clear hst hlk
            generalize at_[j] = q at *
            generalize decide ((m, j) ∈ ps) = r at *
            cases hqk : (q == (k : Int))
            · by_cases hw : -1 ≤ wrap64 (q - k) ∧ wrap64 (q - k) ≤ 1
              · have hlk := Hlk.out
                have C1 := Lib.hid (within_t hw)
                have hst2 : clash ps m k j (at_.drop j) = (r || clash ps m k (j + 1) (at_.drop (j + 1))) := by rw [Hst.out, hqk, decide_eq_true hw]; rfl
                have Hst2 := Lib.hid hst2
                clear hw hst2
                cases r
                · have Hn := Lib.hid (show clash ps m k (j + 1) (at_.drop (j + 1)) = res by rw [← Hj.out, Hst2.out]; rfl)
                  gi_wp2_with fail
                  refine ⟨trivial, (callsIn_wide.2 (C1.out _)).mono ?_⟩; rintro e w1 ⟨rfl, rfl⟩
                  gi_wp2
                  go_roundw
                  case rel => exact ⟨j + 1, by go_num, by omega, trivial, Hn⟩
                  case measure => simp [intOf]; omega
                · have hr : res = true := by rw [← Hj.out, Hst2.out]; rfl
                  have Hr := Lib.hid hr
                  clear hr
                  gi_wp2_with fail
                  refine ⟨trivial, (callsIn_wide.2 (C1.out _)).mono ?_⟩; rintro e w1 ⟨rfl, rfl⟩
                  gi_wp2
                  refine ⟨⟨k + 1, hlt, by go_num, by rw [Hnx.out, Hf.out, Hr.out]; exact hJ, hI⟩, ?_⟩
                  simp [intOf]; omega
              · have C1 := Lib.hid (within_f hw)
                have hst2 : clash ps m k j (at_.drop j) = clash ps m k (j + 1) (at_.drop (j + 1)) := by rw [Hst.out, hqk, decide_eq_false hw]; rfl
                have Hn := Lib.hid (show clash ps m k (j + 1) (at_.drop (j + 1)) = res by rw [← Hj.out, hst2])
                clear hw hst2
                gi_wp2_with fail
                refine ⟨trivial, (callsIn_wide.2 (C1.out _)).mono ?_⟩; rintro e w1 ⟨rfl, rfl⟩
                gi_wp2
                go_roundw
                case rel => exact ⟨j + 1, by go_num, by omega, trivial, Hn⟩
                case measure => simp [intOf]; omega
            · have hr : res = true := by rw [← Hj.out, Hst.out, hqk]; rfl
              have Hr := Lib.hid hr
              clear hr
              gi_wp2
              refine ⟨trivial, ?_⟩
              gi_wp2
              refine ⟨⟨k + 1, hlt, by go_num, by rw [Hnx.out, Hf.out, Hr.out]; exact hJ, hI⟩, ?_⟩
              simp [intOf]; omega
          · have hr : res = false := by rw [← Hj.out, show at_.drop j = [] from List.drop_of_length_le (by omega)]; rfl
            have Hr := Lib.hid hr
            clear hr
            obtain ⟨fn, tmps, assign, body, hy, hR⟩ := hY _ ⟨k, hlt⟩ wr hJ (by have := freeIx_len (fits y ps at_) n1 k hk; omega)
            have hnx2 : freeIx (fits y ps at_) n1 (k + 1) hlt = freeIx (fits y ps at_) n1 k hk ++ [⟨k, hlt⟩] := by rw [Hnx.out, Hf.out, Hr.out]; rfl
            have Hnx2 := Lib.hid hnx2
            clear hnx2
            gi_wp2
            refine hR.mono ?_
            rintro e W3 (⟨rfl, hJ3, hk3⟩ | ⟨rfl, hJx3⟩)
            · have hI3 := hk3 hI
              gi_wp2
              refine ⟨⟨k + 1, hlt, by go_num, by rw [Hnx2.out]; exact hJ3, hI3⟩, ?_⟩
              simp [intOf]; omega
            · gi_wp2
              simp only [Exit.noGoto]
              refine bodyPost_ret (results_none rfl _ _ _) rfl ?_
              exact ⟨⟨_, rfl⟩, .inr ⟨_, ⟨k + 1, hlt, Hnx2.out.symm⟩, hJx3⟩⟩
    · obtain rfl : k = n1 := by omega
      gi_wp2
      simp only [Exit.noGoto]
      go_end0
      exact ⟨⟨_, rfl⟩, .inl ⟨_, rfl, hJ⟩⟩
end
end Go.Proofs.Ytopfhinnamhoiaa
