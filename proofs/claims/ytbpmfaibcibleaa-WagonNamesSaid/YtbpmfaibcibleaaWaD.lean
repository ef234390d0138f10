/- Walks: slices.Grow of nothing, slices.Concat of rows, slices.Sort of a row of the call's own. -/
import Derived.Lib.AppendZerosOnto
import Derived.Sort.OwnSortedInts
import Derived.Test.YtbpmfaibcibleaaWaSo
import Derived.Test.YtbpmfaibcibleaaWaC
namespace Go.Wg
open Go.RowKit Go.Bs Go.Pl
theorem encI_flat (l : List Int) : l.flatMap encI = l.map (Value.int .i64) := by
  induction l with
  | nil => rfl
  | cons x l ih => rw [List.flatMap_cons, ih]; rfl
def srtL (l : List Int) : List Int := l.mergeSort fun x y => decide (x ≤ y)
theorem srtL_perm (l : List Int) : (srtL l).Perm l := List.mergeSort_perm l _
theorem srtL_len (l : List Int) : (srtL l).length = l.length := (srtL_perm l).length_eq
/-- where rows lie -/
structure RwM (w : World) (A : Option Addr) (rs : List RwV) : Prop where
  hdr : Cells w A 1 RwV.enc rs
  row : ∀ x ∈ rs, Cells w x.A 1 encI x.r
  cap : ∀ x ∈ rs, x.r.length ≤ x.c
theorem RwM.ext {w w' : World} {A : Option Addr} {rs : List RwV} (h : RwM w A rs) (hb : Below w.heap.size w w') : RwM w' A rs := ⟨h.hdr.ext hb, fun x hx => (h.row x hx).ext hb, h.cap⟩
def rows (rs : List RwV) : List (List Int) := rs.map RwV.r
theorem rows_len (rs : List RwV) : (rows rs).length = rs.length := by simp [rows]
theorem rows_take (rs : List RwV) (k : Nat) : (rows rs).take k = rows (rs.take k) := by simp [rows, List.map_take]
theorem flat_snoc {rs : List RwV} {k : Nat} (h : k < rs.length) : (rows (rs.take (k + 1))).flatten = (rows (rs.take k)).flatten ++ rs[k].r := by
  unfold rows
  rw [List.take_succ_eq_append_getElem h, List.map_append, List.flatten_append]
  simp
theorem flat_take_le (rs : List RwV) (k : Nat) : (rows (rs.take k)).flatten.length ≤ (rows rs).flatten.length := by
  have : (rows rs).flatten = (rows (rs.take k)).flatten ++ (rows (rs.drop k)).flatten := by
    rw [← List.flatten_append]
    congr 1
    unfold rows
    rw [← List.map_append, List.take_append_drop]
  rw [this, List.length_append]; omega
end Go.Wg
namespace Go.Bs
open Go.RowKit
theorem Blk.new' (w : World) (T : TypeId) (cs : Array Value) : (w.drew.alloc (.cells cs T)).heap[w.heap.size]? = some (.cells cs T (0, 0)) := by
  show (w.heap.push _)[w.heap.size]? = _
  rw [Array.getElem?_push, if_pos rfl]
/-- append whose run is known -/
theorem app_run {P : Program} {ops : Array Oper} {rest : List Oper} {o : Oper} {a : Act} {Q : Exit → Act → World → Prop} {w w' : World} (hgd : o.guard = none) (s x : Operand) (ats : Array TypeId)
    (ho : o.op = .call { callee := .builtin .append, args := #[s, x], argTypes := ats }) (v u r : Value) (hs : a.eval s = v) (hx : a.eval x = u) (hrun : (Builtin.append_ ats o.type #[v, u]).run P w = .ok r w')
    (h : wpList P ops Q rest (a.put o.dst r) w') : wpList P ops Q (o :: rest) a w := by
  refine wpList_plain hgd fun K hK => ?_
  unfold Oper.wp
  simp [execOp, ho, resolve, invoke, builtin, hs, hx, hrun, Result.andThen]
  exact hK _ _ h
end Go.Bs
namespace Go.Proofs.Ytbpmfaibcibleaa
open Go.RowKit Go.Bs Go.Wg Go.Pl Go.Sort
theorem sort_own (base : Nat) (v : Value) (l : List Int) (w : World) (ho : OwnL w base 3 1 Go.Bs.encI v l) (hl : l.length ≤ 1000000) :
    Calls Try.prog 94 #[v] w fun e w' => e = .returned (.tuple #[]) ∧ OwnL w' base 3 1 Go.Bs.encI v (srtL l) ∧ w.grownBy w' v.ownBlock := by
  obtain ⟨h1, h2⟩ := ho
  rw [encI_flat] at h1 h2
  rcases h2 with ⟨rfl, hn⟩ | ⟨g, cap, cur, rfl, hb, hg, hnc, hcm, hcs, htk⟩
  · have hl0 : l = [] := List.length_eq_zero_iff.1 hn
    subst hl0
    refine (Try.slices_Sort_int_none none 0 w).mono ?_
    rintro e w' ⟨rfl, rfl⟩
    rw [show srtL [] = [] by simp [srtL]]
    exact ⟨rfl, OwnL.nil, ⟨rfl, rfl, rfl, Nat.le_refl _, fun _ _ _ => rfl⟩⟩
  · rw [Nat.mul_one] at htk
    refine (Try.slices_Sort_int g 0 cap l w (holds_of_blockI hg htk) (Array.getElem?_eq_some_iff.1 hg).1 (by omega)).mono ?_
    rintro e w' ⟨rfl, n, os, rfl⟩
    refine ⟨rfl, ?_, grownBy_sortedI _⟩
    unfold OwnL
    rw [encI_flat, srtL_len]
    exact ownsRow_sortedI (srtL_len l) hb hg hnc hcm hcs
set_option maxRecDepth 100000 in
/-- a row of the call's own that is still empty -/
theorem grow_any (n : Nat) (w : World) (hn : n ≤ 1000000) :
    Calls Try.prog 98 #[.slice none 0 0, .int .i64 n] w fun e w' => ∃ v, e = .returned v ∧ OwnL w' w.heap.size 3 1 Go.Bs.encI v ([] : List Int) ∧ Below w.heap.size w w' := by
  by_cases h0 : n = 0
  · subst h0
    go_enter Try.func98, Try.ntmps98
    go_wp2
    go_ret
    exact ⟨_, rfl, OwnL.nil, Below.refl _ _⟩
  · have hp : 0 < n := by omega
    have hp' : (0 : Int) < n := by omega
    obtain ⟨i, hi, hz, hs, hby⟩ := info_parts info3
    have hg := grownCap_ge w n 0 3
    have hcm : grownCap w n 0 3 ≤ maxLen := grownCap_le_maxLen w n 0 3 (by unfold maxLen; omega)
    have hrz : ∀ ty, (Builtin.append_ #[35, 3] ty #[.slice none 0 0, .int .i64 n]).run Try.prog w =
        .ok (.slice (some ⟨w.heap.size, 0, none⟩) n (grownCap w n 0 3)) (w.drew.alloc (.cells (#[] ++ Builtin.zeroCells #[.int .i64 0] n ++ Builtin.zeroCells #[.int .i64 0] (grownCap w n 0 3 - n)) 3)) := fun ty => by
      have h := Lib.run_append_grow_zeros w 35 3 ty 3 i (.int .i64 0) .i64 .i64 Try.underlying35 Try.underlying3 hi hz none 0 0 [] (run_firstCells_none w.drew i.size 0 0 0) n hp (by omega) (by omega) (by omega)
        (by rw [hby]; omega) (by rw [Nat.zero_add]; exact growslice_fits hp (by rw [hby]; omega))
      rw [Nat.zero_add] at h
      exact h
    generalize grownCap w n 0 3 = G at *
    have hown : OwnL (w.drew.alloc (.cells (#[] ++ Builtin.zeroCells #[.int .i64 0] n ++ Builtin.zeroCells #[.int .i64 0] (G - n)) 3)) w.heap.size 3 1 Go.Bs.encI (.slice (some ⟨w.heap.size, 0, none⟩) 0 G) ([] : List Int) := by
      refine ⟨by simp, .inr ⟨w.heap.size, G, _, rfl, Nat.le_refl _, Blk.new' _ _ _, Nat.zero_le _, hcm, ?_, by simp⟩⟩
      simp [size_zeroCells]
      omega
    have hb : Below w.heap.size w (w.drew.alloc (.cells (#[] ++ Builtin.zeroCells #[.int .i64 0] n ++ Builtin.zeroCells #[.int .i64 0] (G - n)) 3)) := ext_trans (ext_drew w) (ext_alloc _ _)
    generalize (w.drew.alloc (.cells (#[] ++ Builtin.zeroCells #[.int .i64 0] n ++ Builtin.zeroCells #[.int .i64 0] (G - n)) 3)) = W at *
    unfold maxLen at hcm
    have hG0 : (0 : Int) ≤ G := by omega
    go_enter Try.func98, Try.ntmps98
    go_wp2_with (at_builtin; refine app_run rfl _ _ #[35, 3] rfl _ _ _ rfl rfl (hrz _) ?_)
    go_ret
    exact ⟨_, rfl, hown, hb⟩
set_option maxRecDepth 100000 in
set_option maxHeartbeats 1000000 in
theorem concat_any (A : Option Addr) (n c : Nat) (rs : List RwV) (w : World) (hn : rs.length = n) (hm : n ≤ 1000000) (hM : RwM w A rs) (hl : (rows rs).flatten.length ≤ 1000000) :
    Calls Try.prog 72 #[.slice A n c] w fun e w' => ∃ v, e = .returned v ∧ OwnL w' w.heap.size 3 1 Go.Bs.encI v (rows rs).flatten ∧ Below w.heap.size w w' := by
  have Hn := Lib.hid hn
  have Hl := Lib.hid (fun k => Nat.le_trans (flat_take_le rs k) hl)
  have Hend := Lib.hid (show (rows (rs.take n)).flatten = (rows rs).flatten by rw [List.take_of_length_le (by omega)])
  have HM := Lib.hid hM
  clear hn hl hM
  go_enter Try.func72, Try.ntmps72
  go_wp2
  go_loop [3, 5, 11] (fun s _ t => ∃ k : Nat, t = .int .i64 k ∧ k ≤ n ∧ s = .int .i64 ((rows (rs.take k)).flatten.length : Nat)) (fun _ _ t => n - (intOf t).toNat)
  case atStart => exact ⟨0, rfl, by omega, rfl⟩
  case round =>
    obtain ⟨k, rfl, hk, rfl⟩ := hrel
    have hL := Hl.out k
    by_cases hlt : k < n
    · have hlt' : (k : Int) < (n : Int) := by omega
      have hk1 : k < rs.length := by rw [Hn.out]; exact hlt
      obtain ⟨b, off, rfl, -, c0⟩ := HM.out.hdr.at1 hk1 rfl
      have hf := congrArg List.length (flat_snoc hk1)
      rw [List.length_append] at hf
      have hL1 := Hl.out (k + 1)
      rw [hf] at hL1
      have Hf := Lib.hid hf
      clear hf
      generalize (rows (rs.take k)).flatten.length = L at *
      generalize rs[k].r.length = m at *
      go_wp2
      go_round
      case rel => exact ⟨k + 1, by go_num, by omega, by rw [Hf.out]; go_num⟩
      case measure => simp [intOf]; omega
    · obtain rfl : n = k := by omega
      rw [Hend.out] at hL ⊢
      have C := Lib.hid (grow_any (rows rs).flatten.length w hL)
      have Hfl := Lib.hid (show (rows rs).flatten.length ≤ 1000000 from hL)
      generalize hF : (rows rs).flatten.length = L at *
      clear hF
      go_wp2_with fail
      refine C.out.mono ?_; rintro e W1 ⟨v, rfl, ho1, hb1⟩
      have hz1 := hb1.size
      clear C
      go_wp2
      go_loopw [6, 8, 27] (fun s _ t wr => ∃ k : Nat, t = .int .i64 k ∧ k ≤ n ∧ OwnL wr w.heap.size 3 1 Go.Bs.encI s (rows (rs.take k)).flatten ∧ Below w.heap.size w wr) (fun _ _ t _ => n - (intOf t).toNat)
      case atStart => exact ⟨0, rfl, by omega, ho1, hb1⟩
      case round =>
        obtain ⟨k, rfl, hk, ho, hb⟩ := hrel
        by_cases hlt : k < n
        · have hlt' : (k : Int) < (n : Int) := by omega
          have hk1 : k < rs.length := by rw [Hn.out]; exact hlt
          have hM1 := HM.out.ext hb
          obtain ⟨b, off, rfl, -, c0⟩ := hM1.hdr.at1 hk1 rfl
          have hrow := hM1.row _ (List.getElem_mem hk1)
          have Hf := Lib.hid (flat_snoc hk1)
          have hL1 := Hl.out (k + 1)
          rw [flat_snoc hk1, List.length_append] at hL1
          have HL1 := Lib.hid hL1
          have hsz := hb.size
          clear hM1 hL1
          generalize (rows (rs.take k)).flatten = L2 at *
          generalize rs[k] = x at *
          go_wp2_with (at_builtin; refine app_ints 35 3 et35 rfl _ _ rfl w.heap.size _ L2 rfl ho x.A _ x.c x.r rfl rfl hrow (by have := HL1.out; omega) hsz ?_; intro v' w' ho' hb' _ _)
          rw [← Hf.out] at ho'
          have hb2 := hb.trans hb'
          clear hb'
          go_wp2
          go_roundw
          case rel => exact ⟨k + 1, by go_num, by omega, ho', hb2⟩
          case measure => simp [intOf]; omega
        · obtain rfl : n = k := by omega
          rw [Hend.out] at ho
          go_wp2
          go_ret
          exact ⟨_, rfl, ho, hb⟩
end Go.Proofs.Ytbpmfaibcibleaa
