/- Walk: the closure of stand, that calls itself. -/
import Derived.Maps.RangeWalk
import Derived.Test.YtopfhinnamhoiaaFreeA
import Derived.Test.YtopfhinnamhoiaaCloneA
import Derived.Test.YtopfhinnamhoiaaOwnOp
import Derived.Test.YtopfhinnamhoiaaDrawIn
import Derived.Test.YtopfhinnamhoiaaGridC
namespace Go.Proofs.Ytopfhinnamhoiaa
open Go.RowKit Go.Bs Go.Yd Go.Pl Go.Sort

/-- the first arrangement that goes on from at_, of m more animals -/
def standR (y : Yrd) (ps : List (Nat × Nat)) (n1 : Nat) : Nat → List Int → Option (List Int)
  | 0, at_ => some at_
  | m + 1, at_ => (freeIx (fits y ps at_) n1 n1 (Nat.le_refl _)).findSome? fun p => standR y ps n1 m (at_ ++ [(p.1 : Int)])

structure EnvS (y : Yrd) (A1 A2 A3 : Option Addr) (n1 n2 n3 c1 c2 c3 b1 b4 b5 bm : Nat) (ps : List (Nat × Nat)) (W : World) : Prop where
  k1 : Blk W b1 61 [.slice A1 n1 c1, .slice A2 n2 c2, .slice A3 n3 c3]
  k4 : Blk W b4 138 [.map (some bm)]
  k5 : Blk W b5 164 [.func (.func 108) #[] #[.pointer (some ⟨b1, 0, none⟩), .pointer (some ⟨b4, 0, none⟩), .pointer (some ⟨b5, 0, none⟩)]]
  yd : YdAt W y A1 A2 A3
  pm : PMap W bm ps
theorem EnvS.ext {y : Yrd} {A1 A2 A3 : Option Addr} {n1 n2 n3 c1 c2 c3 b1 b4 b5 bm : Nat} {ps : List (Nat × Nat)} {W W' : World} (h : EnvS y A1 A2 A3 n1 n2 n3 c1 c2 c3 b1 b4 b5 bm ps W) (hb : Below W.heap.size W W') : EnvS y A1 A2 A3 n1 n2 n3 c1 c2 c3 b1 b4 b5 bm ps W' :=
  ⟨h.k1.ext hb, h.k4.ext hb, h.k5.ext hb, h.yd.ext hb, h.pm.ext hb⟩

def StPost (N0 : Nat) (R : Option (List Int)) (v : Value) (at_ : List Int) (W : World) (e : Ending) (W' : World) : Prop :=
  ∃ r, e = .returned (.tuple #[r, .bool R.isSome]) ∧ W.grownBy W' v.ownBlock ∧ OwnL W' N0 3 1 encI v at_ ∧ FreshL W W' 1 encI r (R.getD [])
theorem grown_b {W W' : World} (h : Below W.heap.size W W') (row : Option Nat) : W.grownBy W' row := ⟨h.os, h.tape, h.output, h.size, fun k hk _ => h.block k hk⟩

theorem freeIx_pre (f : Nat → Bool) (n : Nat) : ∀ (d k : Nat) (h : k ≤ n) (h2 : k + d ≤ n), ∃ r, freeIx f n (k + d) h2 = freeIx f n k h ++ r
  | 0, k, h, _ => ⟨[], by simp⟩
  | d + 1, k, h, h2 => by
    obtain ⟨r, hr⟩ := freeIx_pre f n d k h (by omega)
    have hlt : k + d < n := by omega
    have e : freeIx f n (k + (d + 1)) h2 = if f (k + d) then freeIx f n (k + d) (by omega) ++ [⟨k + d, hlt⟩] else freeIx f n (k + d) (by omega) := rfl
    rw [e]
    split
    · exact ⟨r ++ [⟨k + d, hlt⟩], by rw [hr, List.append_assoc]⟩
    · exact ⟨r, hr⟩
theorem standR_none {y : Yrd} {ps : List (Nat × Nat)} {n1 m : Nat} {at_ : List Int} (h : ∀ x ∈ freeIx (fits y ps at_) n1 n1 (Nat.le_refl _), standR y ps n1 m (at_ ++ [(x.1 : Int)]) = none) : standR y ps n1 (m + 1) at_ = none := by
  unfold standR
  exact List.findSome?_eq_none_iff.2 h
theorem standR_some {y : Yrd} {ps : List (Nat × Nat)} {n1 m k : Nat} {at_ : List Int} {pre : List (Ix n1)} {x : Ix n1} (hk : k ≤ n1) (hp : freeIx (fits y ps at_) n1 k hk = pre ++ [x]) (h : ∀ x ∈ pre, standR y ps n1 m (at_ ++ [(x.1 : Int)]) = none)
    (hx : (standR y ps n1 m (at_ ++ [(x.1 : Int)])).isSome = true) : standR y ps n1 (m + 1) at_ = standR y ps n1 m (at_ ++ [(x.1 : Int)]) := by
  obtain ⟨r, hr⟩ := freeIx_pre (fits y ps at_) n1 (n1 - k) k hk (by omega)
  have hr2 : freeIx (fits y ps at_) n1 n1 (Nat.le_refl _) = pre ++ [x] ++ r := by
    rw [← hp, ← hr]; congr 1; omega
  have hs : standR y ps n1 (m + 1) at_ = (freeIx (fits y ps at_) n1 n1 (Nat.le_refl _)).findSome? fun p => standR y ps n1 m (at_ ++ [(p.1 : Int)]) := rfl
  obtain ⟨res, hres⟩ := Option.isSome_iff_exists.1 hx
  rw [hs, hr2, List.append_assoc, List.findSome?_append, List.findSome?_eq_none_iff.2 h]
  simp [hres]

theorem grown_step {W X Y : World} {r1 row : Option Nat} (h : W.grownBy X r1) (hg : X.grownBy Y row) (hr : ∀ b, row = some b → r1 = some b ∨ W.heap.size ≤ b) : W.grownBy Y r1 :=
  ⟨hg.os.trans h.os, hg.tape.trans h.tape, hg.output.trans h.output, Nat.le_trans h.size hg.size, fun k hk hne => by
    refine (hg.block k (Nat.lt_of_lt_of_le hk h.size) (fun e => ?_)).trans (h.block k hk hne)
    rcases hr k e.symm with h1 | h1
    · exact hne h1.symm
    · omega⟩
/-- What stands in memory between two rounds. -/
structure StI (W : World) (N0 : Nat) (v : Value) (at_ : List Int) (A1 A2 A3 : Option Addr) (n1 n2 n3 c1 c2 c3 bm q : Nat) (X : World) : Prop where
  gr : W.grownBy X v.ownBlock
  own : OwnL X N0 3 1 encI v at_
  k4 : Blk X W.heap.size 24 [v]
  k5 : Blk X (W.heap.size + 1) 24 [.slice none 0 0]
  k6 : Blk X (W.heap.size + 2) 4 [.bool false]
  B0 : Blk X (W.heap.size + 3) 61 [.slice A1 n1 c1, .slice A2 n2 c2, .slice A3 n3 c3]
  B1 : Blk X (W.heap.size + 3 + 1) 138 [.map (some bm)]
  B2 : Blk X (W.heap.size + 3 + 2) 24 [v]
  B3 : Blk X (W.heap.size + 3 + 3) 3 [.int .i64 (q : Int)]
theorem StI.turn {W : World} {N0 : Nat} {v : Value} {at_ : List Int} {A1 A2 A3 : Option Addr} {n1 n2 n3 c1 c2 c3 bm q : Nat} {X Y : World} {row : Option Nat} (h : StI W N0 v at_ A1 A2 A3 n1 n2 n3 c1 c2 c3 bm q X) (hv : ∀ b, v.ownBlock = some b → b < W.heap.size)
    (hg : X.grownBy Y row) (hr : ∀ b, row = some b → v.ownBlock = some b ∨ W.heap.size + 7 ≤ b) (ho : OwnL Y N0 3 1 encI v at_) : StI W N0 v at_ A1 A2 A3 n1 n2 n3 c1 c2 c3 bm q Y := by
  have key : ∀ {B T : Nat} {cs : List Value}, Blk X B T cs → W.heap.size ≤ B → B < W.heap.size + 7 → Blk Y B T cs := fun {B T cs} hB h1 h2 => (hg.block B hB.lt (fun e => by
    rcases hr B e.symm with h3 | h3
    · have := hv B h3; omega
    · omega)).trans hB
  exact ⟨grown_step h.gr hg (fun b e => (hr b e).imp id (fun h => by omega)), ho, key h.k4 (by omega) (by omega), key h.k5 (by omega) (by omega), key h.k6 (by omega) (by omega), key h.B0 (by omega) (by omega), key h.B1 (by omega) (by omega), key h.B2 (by omega) (by omega), key h.B3 (by omega) (by omega)⟩
theorem StI.it {y : Yrd} {ps : List (Nat × Nat)} {b1 b4 b5 : Nat} {W : World} {N0 : Nat} {V : Option Addr} {cm : Nat} {at_ : List Int} {A1 A2 A3 : Option Addr} {n1 n2 n3 c1 c2 c3 bm q : Nat} {X : World} (hq : at_.length = q) (h : StI W N0 (.slice V q cm) at_ A1 A2 A3 n1 n2 n3 c1 c2 c3 bm q X)
    (hE : EnvS y A1 A2 A3 n1 n2 n3 c1 c2 c3 b1 b4 b5 bm ps X) : ItAt y A1 A2 A3 V n1 n2 n3 c1 c2 c3 q cm bm (W.heap.size + 3) ps at_ X := by
  obtain ⟨A, c, e, _, _, hc⟩ := h.own.cells encI_len
  simp only [Value.slice.injEq] at e
  obtain ⟨rfl, -, -⟩ := e
  exact ⟨h.B0.cell rfl, h.B0.cell rfl, h.B1.cell rfl, h.B2.cell rfl, h.B3.cell rfl, hE.yd.b, hE.yd.n, hc, hE.pm⟩
theorem StI.below {W00 W : World} {v : Value} {at_ : List Int} {A1 A2 A3 : Option Addr} {n1 n2 n3 c1 c2 c3 bm q : Nat} {X : World} (hW : Below W00.heap.size W00 W) (h : StI W W00.heap.size v at_ A1 A2 A3 n1 n2 n3 c1 c2 c3 bm q X) : Below W00.heap.size W00 X :=
  hW.grown h.gr hW.size (fun k hk => (h.own.lt hk).1)
theorem StI.start {W : World} {N0 : Nat} {v : Value} {at_ : List Int} (A1 A2 A3 : Option Addr) (n1 n2 n3 c1 c2 c3 bm q : Nat) (hv : OwnL W N0 3 1 encI v at_) : StI W N0 v at_ A1 A2 A3 n1 n2 n3 c1 c2 c3 bm q
    (((((((W.alloc (.cells #[v] 24)).alloc (.cells #[.slice none 0 0] 24)).alloc (.cells #[.bool false] 4)).alloc (.cells #[.slice A1 n1 c1, .slice A2 n2 c2, .slice A3 n3 c3] 61)).alloc (.cells #[.map (some bm)] 138)).alloc (.cells #[v] 24)).alloc (.cells #[.int .i64 (q : Int)] 3)) := by
  have hb : Below W.heap.size W (((((((W.alloc (.cells #[v] 24)).alloc (.cells #[.slice none 0 0] 24)).alloc (.cells #[.bool false] 4)).alloc (.cells #[.slice A1 n1 c1, .slice A2 n2 c2, .slice A3 n3 c3] 61)).alloc (.cells #[.map (some bm)] 138)).alloc (.cells #[v] 24)).alloc (.cells #[.int .i64 (q : Int)] 3)) :=
    ((((((Below.refl _ _).alloc (Nat.le_refl _) _).alloc (by simp) _).alloc (by simp; omega) _).alloc (by simp; omega) _).alloc (by simp; omega) _).alloc (by simp; omega) _ |>.alloc (by simp; omega) _
  have n1' := Blk.new W 24 [v]
  have n2' := Blk.new (W.alloc (.cells #[v] 24)) 24 [.slice none 0 0]
  have n3' := Blk.new ((W.alloc (.cells #[v] 24)).alloc (.cells #[.slice none 0 0] 24)) 4 [.bool false]
  have n4' := Blk.new (((W.alloc (.cells #[v] 24)).alloc (.cells #[.slice none 0 0] 24)).alloc (.cells #[.bool false] 4)) 61 [.slice A1 n1 c1, .slice A2 n2 c2, .slice A3 n3 c3]
  have n5' := Blk.new ((((W.alloc (.cells #[v] 24)).alloc (.cells #[.slice none 0 0] 24)).alloc (.cells #[.bool false] 4)).alloc (.cells #[.slice A1 n1 c1, .slice A2 n2 c2, .slice A3 n3 c3] 61)) 138 [.map (some bm)]
  have n6' := Blk.new (((((W.alloc (.cells #[v] 24)).alloc (.cells #[.slice none 0 0] 24)).alloc (.cells #[.bool false] 4)).alloc (.cells #[.slice A1 n1 c1, .slice A2 n2 c2, .slice A3 n3 c3] 61)).alloc (.cells #[.map (some bm)] 138)) 24 [v]
  have n7' := Blk.new ((((((W.alloc (.cells #[v] 24)).alloc (.cells #[.slice none 0 0] 24)).alloc (.cells #[.bool false] 4)).alloc (.cells #[.slice A1 n1 c1, .slice A2 n2 c2, .slice A3 n3 c3] 61)).alloc (.cells #[.map (some bm)] 138)).alloc (.cells #[v] 24)) 3 [.int .i64 (q : Int)]
  simp only [World.size_alloc] at n2' n3' n4' n5' n6' n7'
  exact ⟨grown_b hb _, hv.ext hb, (((((n1'.alloc _).alloc _).alloc _).alloc _).alloc _).alloc _, ((((n2'.alloc _).alloc _).alloc _).alloc _).alloc _, (((n3'.alloc _).alloc _).alloc _).alloc _, ((n4'.alloc _).alloc _).alloc _, (n5'.alloc _).alloc _, n6'.alloc _, n7'⟩

attribute [local go_sem] run_store_func run_store_map Oper.semAt_some
set_option maxRecDepth 100000 in
set_option maxHeartbeats 4000000 in
theorem stand1_any (y : Yrd) (A1 A2 A3 : Option Addr) (n1 n2 n3 c1 c2 c3 b1 b4 b5 bm : Nat) (ps : List (Nat × Nat)) (W00 : World) (hE : EnvS y A1 A2 A3 n1 n2 n3 c1 c2 c3 b1 b4 b5 bm ps W00)
    (hn1 : y.boxes.length = n1) (hn2 : y.needs.length = n2) (h81 : n1 ≤ 1000) (h8 : n2 ≤ 8) (hc2 : n2 ≤ c2) : ∀ (m : Nat) (at_ : List Int) (v : Value) (W : World), at_.length + m = n2 → Below W00.heap.size W00 W → OwnL W W00.heap.size 3 1 encI v at_ →
    Calls Try.prog 108 #[v, .pointer (some ⟨b1, 0, none⟩), .pointer (some ⟨b4, 0, none⟩), .pointer (some ⟨b5, 0, none⟩)] W (StPost W00.heap.size (standR y ps n1 m at_) v at_ W) := by
  intro m
  induction m with
  | zero =>
    intro at_ v W hm hW hv
    obtain ⟨V, cm, rfl, hcm, hcx, hcl⟩ := hv.cells encI_len
    have hE1 := hE.ext hW
    have hm' : at_.length = n2 := by omega
    rw [hm'] at hv hcm
    have hb0 : Below W.heap.size W (((W.alloc (.cells #[.slice V n2 cm] 24)).alloc (.cells #[.slice none 0 0] 24)).alloc (.cells #[.bool false] 4)) := (((Below.refl _ _).alloc (Nat.le_refl _) _).alloc (by simp) _).alloc (by simp; omega) _
    have hv2 := hv.ext hb0
    have hc2 := hcl.ext hb0
    have k5 : Blk (((W.alloc (.cells #[.slice V n2 cm] 24)).alloc (.cells #[.slice none 0 0] 24)).alloc (.cells #[.bool false] 4)) (W.heap.size + 1) 24 [.slice none 0 0] := by
      have := (Blk.new (W.alloc (.cells #[.slice V n2 cm] 24)) 24 [.slice none 0 0]).alloc (.cells #[.bool false] 4)
      simpa using this
    have k6 : Blk (((W.alloc (.cells #[.slice V n2 cm] 24)).alloc (.cells #[.slice none 0 0] 24)).alloc (.cells #[.bool false] 4)) (W.heap.size + 2) 4 [.bool false] := by
      have := Blk.new ((W.alloc (.cells #[.slice V n2 cm] 24)).alloc (.cells #[.slice none 0 0] 24)) 4 [.bool false]
      simpa using this
    rw [hm']
    refine (callsIn_wide (n := 40)).1 (callsIn_of_wp_marks Try.func108 rfl trivial ?_)
    simp only [Try.ntmps108, List.size_toArray, List.length_cons, List.length_nil, Nat.reduceAdd, Nat.reduceSub, Array.replicate_succ, Array.replicate_zero, List.push_toArray, List.append_toArray, List.nil_append, List.cons_append]
    refine wpIn_wide.2 ?_
    go_upto_region 1 with fail
    have k4 : Blk (((W.alloc (.cells #[.slice V n2 cm] 24)).alloc (.cells #[.slice none 0 0] 24)).alloc (.cells #[.bool false] 4)) W.heap.size 24 [.slice V n2 cm] := ((Blk.new W 24 [.slice V n2 cm]).alloc _).alloc _
    have x1 := (hE1.k1.ext hb0).cell (i := 1) rfl
    have hsz : (((W.alloc (.cells #[.slice V n2 cm] 24)).alloc (.cells #[.slice none 0 0] 24)).alloc (.cells #[.bool false] 4)).heap.size = W.heap.size + 3 := by simp
    generalize ((W.alloc (.cells #[.slice V n2 cm] 24)).alloc (.cells #[.slice none 0 0] 24)).alloc (.cells #[.bool false] 4) = W3 at *
    have Hsz := Lib.hid hsz
    clear hsz
    have x4 := k4.cell (i := 0) rfl
    have x5 := k5.cell (i := 0) rfl
    have x6 := k6.cell (i := 0) rfl
    go_wp2_with fail
    refine (clone_any V n2 cm at_ W3 hm' (by omega) hc2).mono ?_; rintro e w4 ⟨r, rfl, hr, hb4⟩
    have k5' := k5.ext hb4
    have k6' := k6.ext hb4
    have y5 := k5'.cell (i := 0) rfl
    have y6 := k6'.cell (i := 0) rfl
    have z5 := k5'.free 0
    have z6 := k6'.free 0
    have hv4 := hv2.ext hb4
    have hb5 := ext_trans hb0 hb4
    clear x1 x4 x5 x6
    obtain ⟨Vr, cr, rfl, hr1, hr2, hr3, hr4⟩ := hr
    rw [hm'] at hr1 ⊢
    go_wp2
    have s5 := Blk.other (p := ⟨W.heap.size + 1 + 1, 0, none⟩) (k5'.set 0 (.slice Vr n2 cr)) (by simp) (.bool true)
    have s6 := (Blk.other (p := ⟨W.heap.size + 1, 0, none⟩) k6' (by simp) (.slice Vr n2 cr)).set 0 (.bool true)
    have hvl := fun k hk => (hv.lt (k := k) hk).2
    have hv5 := (hv4.kept (grownBy_setCell' w4 (W.heap.size + 1) (.slice Vr n2 cr)) (by
      cases hx : (Value.slice V n2 cm).ownBlock with
      | none => exact .inl rfl
      | some k => exact .inr (by have := hvl k hx; simp; omega))).kept (grownBy_setCell' _ (W.heap.size + 1 + 1) (.bool true)) (by
      cases hx : (Value.slice V n2 cm).ownBlock with
      | none => exact .inl rfl
      | some k => exact .inr (by have := hvl k hx; simp; omega))
    have hb6 := (hb5.setCell (p := ⟨W.heap.size + 1, 0, none⟩) (by simp) (.slice Vr n2 cr)).setCell (p := ⟨W.heap.size + 1 + 1, 0, none⟩) (by simp; omega) (.bool true)
    have hr5 : Cells ((w4.setCell ⟨W.heap.size + 1, 0, none⟩ (.slice Vr n2 cr)).setCell ⟨W.heap.size + 1 + 1, 0, none⟩ (.bool true)) Vr 1 encI at_ := by
      refine Cells.keep hr3 (fun p hp hA => ?_)
      have := (hr4 _ hA).1
      have h1 := Hsz.out
      have e1 : ((w4.setCell ⟨W.heap.size + 1, 0, none⟩ (.slice Vr n2 cr)).setCell ⟨W.heap.size + 1 + 1, 0, none⟩ (.bool true)).heap[p.block]? = w4.heap[p.block]? := (Below.heap_setCell _ _ _ _ (by simp; omega)).trans (Below.heap_setCell _ _ _ _ (by simp; omega))
      simp [World.cell?, e1]
    have hsz5 : w4.heap.size ≤ ((w4.setCell ⟨W.heap.size + 1, 0, none⟩ (.slice Vr n2 cr)).setCell ⟨W.heap.size + 1 + 1, 0, none⟩ (.bool true)).heap.size := by simp [World.setCell]
    generalize (w4.setCell ⟨W.heap.size + 1, 0, none⟩ (.slice Vr n2 cr)).setCell ⟨W.heap.size + 1 + 1, 0, none⟩ (.bool true) = W5 at *
    have t5 := s5.cell (i := 0) rfl
    have t6 := s6.cell (i := 0) rfl
    refine ⟨.tuple #[.slice Vr n2 cr, .bool true], by simp [results, Try.results108, go_sem, t5, t6], _, rfl, grown_b hb6 _, hv5, Vr, cr, by simp [standR, hm'], by simp [standR, hm']; exact hr1, hr2, by simpa [standR] using hr5, fun k hk => ?_⟩
    have h1 := hr4 k hk
    have h2 := Hsz.out
    omega
  | succ m ih =>
    intro at_ v W hm hW hv
    obtain ⟨V, cm, rfl, hcm, hcx, hcl⟩ := hv.cells encI_len
    obtain ⟨q, hq⟩ : ∃ q, at_.length = q := ⟨_, rfl⟩
    rw [hq] at hv hcm hm ⊢
    have hqn : q < n2 := by omega
    have hqm : q ≤ 8 := by omega
    have hvl := fun k hk => (hv.lt (k := k) hk).2
    have hvb := fun k hk => (hv.lt (k := k) hk).1
    have hne : ((q : Int) == (n2 : Int)) = false := by simp; omega
    have hE1 := hE.ext hW
    have hst := StI.start A1 A2 A3 n1 n2 n3 c1 c2 c3 bm q hv
    refine (callsIn_wide (n := 40)).1 (callsIn_of_wp_marks Try.func108 rfl trivial ?_)
    simp only [Try.ntmps108, List.size_toArray, List.length_cons, List.length_nil, Nat.reduceAdd, Nat.reduceSub, Array.replicate_succ, Array.replicate_zero, List.push_toArray, List.append_toArray, List.nil_append, List.cons_append]
    refine wpIn_wide.2 ?_
    go_upto_region 1 with fail
    have k4 : Blk (((W.alloc (.cells #[.slice V q cm] 24)).alloc (.cells #[.slice none 0 0] 24)).alloc (.cells #[.bool false] 4)) W.heap.size 24 [.slice V q cm] := ((Blk.new W 24 [.slice V q cm]).alloc _).alloc _
    have hb0 : Below W.heap.size W (((W.alloc (.cells #[.slice V q cm] 24)).alloc (.cells #[.slice none 0 0] 24)).alloc (.cells #[.bool false] 4)) := (((Below.refl _ _).alloc (Nat.le_refl _) _).alloc (by simp) _).alloc (by simp; omega) _
    have hsz : (((W.alloc (.cells #[.slice V q cm] 24)).alloc (.cells #[.slice none 0 0] 24)).alloc (.cells #[.bool false] 4)).heap.size = W.heap.size + 3 := by simp
    have hE3 := hE1.ext hb0
    generalize ((W.alloc (.cells #[.slice V q cm] 24)).alloc (.cells #[.slice none 0 0] 24)).alloc (.cells #[.bool false] 4) = W3 at *
    have x0 := hE3.k1.cell (i := 0) rfl
    have x1 := hE3.k1.cell (i := 1) rfl
    have x2 := hE3.k1.cell (i := 2) rfl
    have x3 := hE3.k4.cell (i := 0) rfl
    have x4 := k4.cell (i := 0) rfl
    have Hsz := Lib.hid hsz
    clear hsz
    go_wp2_with fail
    refine (free_any y A1 A2 A3 V n1 n2 n3 c1 c2 c3 q cm bm W3).mono ?_; rintro e w1 ⟨rfl, rfl⟩
    rw [Hsz.out]
    clear x0 x1 x2 x3 x4
    have hsz7 : ((((W3.alloc (.cells #[.slice A1 n1 c1, .slice A2 n2 c2, .slice A3 n3 c3] 61)).alloc (.cells #[.map (some bm)] 138)).alloc (.cells #[.slice V q cm] 24)).alloc (.cells #[.int .i64 (q : Int)] 3)).heap.size = W.heap.size + 7 := by simp [Hsz.out]
    generalize (((W3.alloc (.cells #[.slice A1 n1 c1, .slice A2 n2 c2, .slice A3 n3 c3] 61)).alloc (.cells #[.map (some bm)] 138)).alloc (.cells #[.slice V q cm] 24)).alloc (.cells #[.int .i64 (q : Int)] 3) = W7 at *
    go_wp2
    generalize ha : Act.mk _ _ = a0
    have hE7 := hE.ext (hst.below hW)
    have hit := hst.it hq hE7
    have hbm : bm < W00.heap.size := hE.pm.lt
    have hWs := hW.size
    refine wpIn_wide.1 (wpIn_rangeFunc_ownH (F := Fence.wide) (n := 40) rfl (by omega) (gf := 112) (lb := #[.pointer (some ⟨W.heap.size + 3, 0, none⟩), .pointer (some ⟨W.heap.size + 3 + 3, 0, none⟩), .pointer (some ⟨W.heap.size + 3 + 2, 0, none⟩), .pointer (some ⟨W.heap.size + 3 + 1, 0, none⟩)]) (by rw [← ha]; rfl) trivial (enters_of Try.func112 (by kernel_rfl) rfl)
      (encs := fun x : Ix n1 => #[.int .i64 (x.1 : Int)]) (S := fun ys => ys = freeIx (fits y ps at_) n1 n1 (Nat.le_refl _)) (Sp := fun pre => ∃ k, ∃ h : k ≤ n1, pre = freeIx (fits y ps at_) n1 k h) (N := n1) (w0 := W7)
      (Kp := fun X Y => ItAt y A1 A2 A3 V n1 n2 n3 c1 c2 c3 q cm bm (W.heap.size + 3) ps at_ X → ItAt y A1 A2 A3 V n1 n2 n3 c1 c2 c3 q cm bm (W.heap.size + 3) ps at_ Y)
      (fun l J Jx Wx hWx _ _ hY h0 => free1_in y A1 A2 A3 V n1 n2 n3 c1 c2 c3 q cm bm (W.heap.size + 3) ps at_ 39 l (by omega) hn1 hn2 hq hqn h8 h81 hc2 J Jx hY Wx (hit.ext hWx) h0)
      (fun h k x => k (h x)) (fun X l o o' hl ho hc _ hi => hi.put hl ho hc (by omega)) (Below.refl _ _) (fun _ => rfl)
      (fun pre X => (∀ x ∈ pre, standR y ps n1 m (at_ ++ [(x.1 : Int)]) = none) ∧ StI W W00.heap.size (.slice V q cm) at_ A1 A2 A3 n1 n2 n3 c1 c2 c3 bm q X)
      (fun c pre X => c = Code.ret ∧ ∃ pre' x r, pre = pre' ++ [x] ∧ (∀ z ∈ pre', standR y ps n1 m (at_ ++ [(z.1 : Int)]) = none) ∧ (standR y ps n1 m (at_ ++ [(x.1 : Int)])).isSome = true ∧ W.grownBy X (Value.slice V q cm).ownBlock ∧ OwnL X W00.heap.size 3 1 encI (.slice V q cm) at_ ∧ Blk X (W.heap.size + 1) 24 [r] ∧ Blk X (W.heap.size + 2) 4 [.bool true] ∧ FreshL W X 1 encI r ((standR y ps n1 m (at_ ++ [(x.1 : Int)])).getD []))
      ?own ?ownx ⟨by simp, hst⟩
      (fun x a' _ => a' = { tmps := (a0.tmps.setIfInBounds 22 (.int .i64 (x.1 : Int))).setIfInBounds 7 (.int .i64 (x.1 : Int)), defers := [] })
      (fun _ _ _ _ _ _ hs _ _ => hs)
      ?assign ?body ?done ?stop)
    case own =>
      rintro pre X Y row ⟨h1, hs⟩ hg hr
      refine ⟨h1, hs.turn hvl hg (fun b e => .inr (by have := (hr b e).1; omega)) (hs.own.kept hg ?_)⟩
      cases hx : (Value.slice V q cm).ownBlock with
      | none => exact .inl rfl
      | some k => exact .inr (fun e => by have h2 := hvl k hx; have := (hr k e.symm).1; omega)
    case ownx =>
      rintro c pre X Y row ⟨hc, pre', x, r, hp, h1, hso, hgr, hown, hb5, hb6, hfr⟩ hg hr
      have hr' := fun r e => (hr r e).2
      refine ⟨hc, pre', x, r, hp, h1, hso, grown_step hgr hg (fun b e => .inr (by have := (hr b e).1; omega)), hown.kept hg ?_, Blk.kept hb5 hg hr', Blk.kept hb6 hg hr', ?_⟩
      · cases hx : (Value.slice V q cm).ownBlock with
        | none => exact .inl rfl
        | some k => exact .inr (fun e => by have h2 := hvl k hx; have := (hr k e.symm).1; omega)
      · obtain ⟨A, c, hv', g1, g2, g3, g4⟩ := hfr
        refine ⟨A, c, hv', g1, g2, fun i x hi => ?_, fun k hk => ⟨(g4 k hk).1, Nat.lt_of_lt_of_le (g4 k hk).2 hg.size⟩⟩
        obtain ⟨b, off, hA, hcl⟩ := g3 i x hi
        exact ⟨b, off, hA, fun j v hj => cell_kept (hcl j v hj) hg hr'⟩
    case assign =>
      subst ha
      rintro l pre x X K ⟨h1, hs⟩ hK
      gi_wp2
      exact hK _ _ (KeepsFrom.refl _ _) (fun h => h) ⟨h1, hs⟩ rfl
    case body =>
      subst ha
      rintro l pre x a' X hl ⟨r, hr⟩ ⟨h1, hs⟩ rfl hlt
      simp only [List.setIfInBounds_toArray, List.set_cons_succ, List.set_cons_zero]
      have hEX := hE.ext (hs.below hW)
      have hXs : W.heap.size + 7 ≤ X.heap.size := by have := hs.B3.lt; omega
      have hb5 : b5 < W00.heap.size := hE.k5.lt
      have hX1 := hs.turn hvl (grown_b (ext_drew X) none) (by simp) (hs.own.ext (ext_drew X))
      have hE2 := hEX.ext (ext_drew X)
      have hg2 : X.grownBy X.drew none := grown_b (ext_drew X) none
      have hX2 : X.drew.heap.size = X.heap.size := rfl
      have eg := enters_of Try.func108 (by kernel_rfl) rfl
      unfold Enters at eg
      gi_upto_region 5 with fail
      obtain ⟨M, hM⟩ : ∃ M, M = (Value.slice V q cm).ownBlock.toList ++ [X.heap.size + 1] := ⟨_, rfl⟩
      have hMm : ∀ b, b ∈ M ↔ ((Value.slice V q cm).ownBlock = some b ∨ b = X.heap.size + 1) := fun b => by rw [hM]; simp
      clear hM
      refine Dr.wpIn_region_plan rfl ?q 11 M (.q [0, 1, 2] (.e1 3 (.e1 4 (.e1 5 (.q [6, 7, 8, 9, 10] .done))))) (by kernel_rfl) (by kernel_rfl) (by kernel_rfl) ?_
      case q => rintro ⟨_, _, h⟩; exact h
      have hM5 : b5 ∉ M := fun h => by
        rcases (hMm _).1 h with h | h
        · have := hvb _ h; omega
        · omega
      have hM4 : W.heap.size ∉ M := fun h => by
        rcases (hMm _).1 h with h | h
        · have := hvl _ h; omega
        · omega
      generalize X.drew = X2 at *
      have HX2 := Lib.hid hX2
      clear hX2
      have q0 := Dr.cls_cell (hE2.k5.cell (i := 0) rfl) hM5
      have q1 := Dr.cls_cell (hX1.k4.cell (i := 0) rfl) hM4
      refine Dr.plan_q (l := [_, _, _]) rfl (fun K hK => ?_)
      iterate 3 (go_big_quiet_step (fail))
      refine wpQuiet_nil (hK _ ?_); clear hK K
      clear q0 q1
      refine Dr.plan_e rfl (by rfl) (fun K hK => ?_)
      go_wp2_with fail
      refine hK _ _ (.of (ext_alloc _ _)) ?_; clear hK K
      refine Dr.plan_e rfl (by rfl) (fun K hK => ?_)
      refine app1_two 24 3 et24 _ _ rfl W00.heap.size (.slice V q cm) at_ rfl (hX1.own.alloc _) X2.heap.size rfl (x.1 : Int) (by simp) (by omega) (by have := HX2.out; simp; omega) ?_
      intro v' w' hown2 hcase
      rw [hq] at hcase
      have hX2s := HX2.out
      obtain ⟨gb, hvg, hgb, hbel, hXw, hback⟩ : ∃ gb, v'.ownBlock = some gb ∧ ((Value.slice V q cm).ownBlock = some gb ∨ gb = X2.heap.size + 1) ∧ Dr.Bel M (X2.alloc (.cells #[.int .i64 (x.1 : Int)] 3)) w' ∧ X2.grownBy w' (Value.slice V q cm).ownBlock ∧ ∀ Y, w'.grownBy Y (some gb) → OwnL Y W00.heap.size 3 1 encI v' (at_ ++ [(x.1 : Int)]) → OwnL Y W00.heap.size 3 1 encI (.slice V q cm) at_ := by
        rcases hcase with ⟨g', cap, hv', rfl, hgr⟩ | ⟨cap, rfl, hgr⟩
        · simp only [Value.slice.injEq] at hv'
          obtain ⟨rfl, -, rfl⟩ := hv'
          exact ⟨g', rfl, .inl rfl, ⟨hgr.os, hgr.tape, hgr.output, hgr.size, fun k hk hm => hgr.block k hk (fun e => by cases e; exact hm ((hMm _).2 (.inl rfl)))⟩, grown_step (grown_b (ext_alloc _ _) _) hgr (fun b e => .inl e), fun Y _ h => OwnL.back hq h⟩
        · refine ⟨X2.heap.size + 1, by simp [Value.ownBlock], .inr rfl, ⟨hgr.os, hgr.tape, hgr.output, hgr.size, fun k hk _ => hgr.block k hk (by simp)⟩, grown_step (grown_b (ext_alloc _ _) _) hgr (by simp), fun Y hY _ => ?_⟩
          refine ((hX1.own.alloc _).kept hgr ?_).kept hY ?_
          · cases (Value.slice V q cm).ownBlock with
            | none => exact .inl rfl
            | some k => exact .inr (by simp)
          · cases hx : (Value.slice V q cm).ownBlock with
            | none => exact .inl rfl
            | some k => exact .inr (by have := hvl k hx; simp; omega)
      refine hK _ _ hbel ?_; clear hK K
      go_frame
      clear hbel hcase
      have hwv := hback w' ⟨rfl, rfl, rfl, Nat.le_refl _, fun _ _ _ => rfl⟩ hown2
      have hs' := hX1.turn hvl hXw (fun b e => .inl e) hwv
      have hbw := hs'.below hW
      have hxw := hXw.size
      refine Dr.plan_e rfl (by rfl) (fun K hK => ?_)
      go_wp2_with fail
      refine (ih (at_ ++ [(x.1 : Int)]) v' w' (by simp; omega) hbw hown2).mono ?_
      rintro e w5 ⟨rr, rfl, hgr5, hown5, hr5⟩
      rw [hvg] at hgr5
      refine hK _ _ ⟨hgr5.os, hgr5.tape, hgr5.output, hgr5.size, fun k hk hm => hgr5.block k hk (fun e => by cases e; exact hm ((hMm _).2 (hgb.imp id (fun h => by omega))))⟩ ?_; clear hK K
      have hv5 := hback w5 hgr5 hown5
      have hs5 := hs'.turn hvl hgr5 (fun b e => by cases e; exact hgb.imp id (fun h => by omega)) hv5
      have hkf : ∀ B, W.heap.size + 7 ≤ B → KeepsFrom B X w5 := fun B hB => by
        refine ⟨by have := hgr5.size; omega, fun k o hk h ho => ?_⟩
        have hkX : k < X.heap.size := (Array.getElem?_eq_some_iff.1 h).1
        have h1 : X2.heap[k]? = X.heap[k]? := hg2.block k hkX (by simp)
        have h2 : w'.heap[k]? = X2.heap[k]? := hXw.block k (by omega) (fun e => by have := hvl k e.symm; omega)
        have h3 : w5.heap[k]? = w'.heap[k]? := hgr5.block k (by omega) (fun e => by
          cases e
          rcases hgb with h | h
          · have := hvl _ h; omega
          · omega)
        rw [h3, h2, h1]; exact h
      have Hxw := Lib.hid (show W.heap.size + 7 ≤ w'.heap.size by omega)
      clear hback hwv hs' hgr5 hown5 hown2 hv5 hXw hxw hX2s
      refine Dr.plan_q (l := [_, _, _, _, _]) rfl (fun K hK => ?_)
      iterate 5 (go_big_quiet_step (fail))
      refine wpQuiet_nil (hK _ ?_); clear hK K
      refine Dr.plan_end rfl ?_
      have hE5 := hE.ext (hs5.below hW)
      have hit5 := hs5.it hq hE5
      cases hso : (standR y ps n1 m (at_ ++ [(x.1 : Int)])).isSome
      · gi_wp2
        refine ⟨hkf _ (by omega), fun _ => hit5, fun z hz => ?_, hs5⟩
        rcases List.mem_append.1 hz with hz | hz
        · exact h1 z hz
        · rw [List.mem_singleton.1 hz]
          exact Option.not_isSome_iff_eq_none.1 (by rw [hso]; simp)
      · have f5 := hs5.k5.free 0
        have f6 := hs5.k6.free 0
        have e5 := hs5.k5.cell (i := 0) rfl
        have e6 := hs5.k6.cell (i := 0) rfl
        have Hso := Lib.hid hso
        obtain ⟨Vr, cr, rfl, g1, g2, g3, g4⟩ := hr5
        generalize hres : (standR y ps n1 m (at_ ++ [(x.1 : Int)])).getD [] = res at *
        have Hres := Lib.hid hres
        clear hres hso
        gi_wp2
        have hne5 : ∀ B, W.heap.size ≤ B → (Value.slice V q cm).ownBlock = none ∨ (Value.slice V q cm).ownBlock ≠ some B := fun B hB => by
          cases hx : (Value.slice V q cm).ownBlock with
          | none => exact .inl rfl
          | some k => exact .inr (by have := hvl k hx; simp; omega)
        have hne6 : ∀ B, B < W.heap.size + 7 → Vr.map (·.block) ≠ some B := fun B hB e => by
          have := (g4 _ e).1
          have := Hxw.out
          omega
        refine ⟨(hkf _ (by omega)).trans (((KeepsOthers.setCell _ _ _).from _).trans ((KeepsOthers.setCell _ _ _).from _)), rfl, pre, x, .slice Vr res.length cr, rfl, h1, Hso.out, ?_, ?_, ?_, ?_, Vr, cr, by rw [Hres.out], by rw [Hres.out]; exact g1, g2, ?_, fun k hk => ?_⟩
        · exact grown_step (grown_step hs5.gr (grownBy_setCell' _ (W.heap.size + 1) _) (fun b e => by cases e; exact .inr (by omega))) (grownBy_setCell' _ (W.heap.size + 1 + 1) _) (fun b e => by cases e; exact .inr (by omega))
        · exact (hs5.own.kept (grownBy_setCell' _ (W.heap.size + 1) _) (hne5 (W.heap.size + 1) (by omega))).kept (grownBy_setCell' _ (W.heap.size + 1 + 1) _) (hne5 (W.heap.size + 1 + 1) (by omega))
        · exact Blk.other (p := ⟨W.heap.size + 1 + 1, 0, none⟩) (hs5.k5.set 0 _) (by simp) _
        · exact (Blk.other (p := ⟨W.heap.size + 1, 0, none⟩) hs5.k6 (by simp) _).set 0 _
        · rw [Hres.out]
          exact (g3.setCell (p := ⟨W.heap.size + 1, 0, none⟩) (hne6 (W.heap.size + 1) (by omega)) _).setCell (p := ⟨W.heap.size + 1 + 1, 0, none⟩) (hne6 (W.heap.size + 1 + 1) (by omega)) _
        · have := g4 k hk
          have := Hxw.out
          simp [World.setCell]
          omega
    case done =>
      subst ha
      rintro D ys X hD rfl ⟨h1, hs⟩ hK
      have hR := standR_none h1
      have f5 := hs.k5.free 0
      have f6 := hs.k6.free 0
      have e5 := hs.k5.cell (i := 0) rfl
      have e6 := hs.k6.cell (i := 0) rfl
      have HR := Lib.hid hR
      clear hR h1
      go_wp2
      have hne5 : ∀ B, W.heap.size ≤ B → (Value.slice V q cm).ownBlock = none ∨ (Value.slice V q cm).ownBlock ≠ some B := fun B hB => by
        cases hx : (Value.slice V q cm).ownBlock with
        | none => exact .inl rfl
        | some k => exact .inr (by have := hvl k hx; simp; omega)
      have t1 := grown_step (grown_step hs.gr (grownBy_setCell' X (W.heap.size + 1) (.slice none 0 0)) (fun b e => by cases e; exact .inr (by omega))) (grownBy_setCell' _ (W.heap.size + 1 + 1) (.bool false)) (fun b e => by cases e; exact .inr (by omega))
      have t2 := (hs.own.kept (grownBy_setCell' X (W.heap.size + 1) (.slice none 0 0)) (hne5 (W.heap.size + 1) (by omega))).kept (grownBy_setCell' _ (W.heap.size + 1 + 1) (.bool false)) (hne5 (W.heap.size + 1 + 1) (by omega))
      have t3 := Blk.other (p := ⟨W.heap.size + 1 + 1, 0, none⟩) (hs.k5.set 0 (.slice none 0 0)) (by simp) (.bool false)
      have t4 := (Blk.other (p := ⟨W.heap.size + 1, 0, none⟩) hs.k6 (by simp) (.slice none 0 0)).set 0 (.bool false)
      have hK8 : ((X.setCell ⟨W.heap.size + 1, 0, none⟩ (.slice none 0 0)).setCell ⟨W.heap.size + 1 + 1, 0, none⟩ (.bool false)).heap[D]? = some (.deferred (some [])) := (Below.heap_setCell _ _ _ D (by simp; omega)).trans ((Below.heap_setCell _ _ _ D (by simp; omega)).trans hK)
      change Blk ((X.setCell ⟨W.heap.size + 1, 0, none⟩ (.slice none 0 0)).setCell ⟨W.heap.size + 1 + 1, 0, none⟩ (.bool false)) _ _ _ at t4
      generalize (X.setCell ⟨W.heap.size + 1, 0, none⟩ (.slice none 0 0)).setCell ⟨W.heap.size + 1 + 1, 0, none⟩ (.bool false) = Y at *
      have hrow : ∀ r, some D = some r → ∃ o : Obj, Y.heap[r]? = some o ∧ o.isCells = false := fun r e => by cases e; exact ⟨_, hK8, rfl⟩
      have hg := grownBy_putObj' Y D (.deferred none)
      have p3 := (Blk.kept t3 hg hrow).cell (i := 0) rfl
      have p4 := (Blk.kept t4 hg hrow).cell (i := 0) rfl
      refine ⟨by simp, .inl ⟨_, _, rfl, run_takeDeferred hK8, .tuple #[.slice none 0 0, .bool false], by simp [results, Try.results108, go_sem, p3, p4], .slice none 0 0, by rw [HR.out]; rfl, grown_step t1 hg (fun b e => by cases e; exact .inr (by omega)), t2.kept hg (hne5 D (by omega)), by rw [HR.out]; exact FreshL.nil _ _ _ _⟩⟩
    case stop =>
      subst ha
      rintro D c pre X hD ⟨k, hk, hpre⟩ ⟨rfl, pre', x, r, hp, h1, hso, hgr, hown, hb5, hb6, hfr⟩ hK
      have hR := standR_some hk (hpre.symm.trans hp) h1 hso
      have hrow : ∀ r, some D = some r → ∃ o : Obj, X.heap[r]? = some o ∧ o.isCells = false := fun r e => by cases e; exact ⟨_, hK, rfl⟩
      have hg := grownBy_putObj' X D (.deferred none)
      have p3 := (Blk.kept hb5 hg hrow).cell (i := 0) rfl
      have p4 := (Blk.kept hb6 hg hrow).cell (i := 0) rfl
      refine wpIn_ret ?_
      refine ⟨by simp, .inl ⟨_, _, rfl, run_takeDeferred hK, .tuple #[r, .bool true], by simp [results, Try.results108, go_sem, p3, p4], r, by rw [hR, hso], grown_step hgr hg (fun b e => by cases e; exact .inr (by omega)), hown.kept hg ?_, ?_⟩⟩
      · cases hx : (Value.slice V q cm).ownBlock with
        | none => exact .inl rfl
        | some k => exact .inr (by have := hvl k hx; simp; omega)
      · rw [hR]
        obtain ⟨A, c, hv', g1, g2, g3, g4⟩ := hfr
        refine ⟨A, c, hv', g1, g2, fun i x hi => ?_, fun k hk => ⟨(g4 k hk).1, Nat.lt_of_lt_of_le (g4 k hk).2 hg.size⟩⟩
        obtain ⟨b, off, hA, hcl⟩ := g3 i x hi
        exact ⟨b, off, hA, fun j v hj => cell_kept (hcl j v hj) hg hrow⟩
end Go.Proofs.Ytopfhinnamhoiaa
