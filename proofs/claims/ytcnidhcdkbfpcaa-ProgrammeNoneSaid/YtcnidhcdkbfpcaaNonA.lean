/- The law ProgrammeNone: its walk. -/
import Derived.Test.YtcnidhcdkbfpcaaNxtA
import Derived.Test.YtcnidhcdkbfpcaaPrlQ
namespace Go.Proofs.Ytcnidhcdkbfpcaa
open Go.RowKit Go.Bs Go.Pg Go.Pl Go.Sort
theorem map_ci (k : List Nat) : (k.map fun (i : Nat) => (i : Int)) = toI k := by first | rfl | (unfold toI; rfl)
/-- the least of those that have no fault, so far -/
def Bst (s : Sh) (L : List (List Int)) (f : Bool) (b : Int) : Prop :=
  (f = false ∧ ∀ q ∈ L, rightE s q ≠ 0) ∨ (f = true ∧ (∃ q ∈ L, rightE s q = 0 ∧ b = s.cost (q.map Int.toNat)) ∧ ∀ q ∈ L, rightE s q = 0 → b ≤ s.cost (q.map Int.toNat))
theorem Bst.nil {s : Sh} {b : Int} : Bst s [] false b := .inl ⟨rfl, by simp⟩
theorem Bst.bad {s : Sh} {L : List (List Int)} {f : Bool} {b : Int} (h : Bst s L f b) {q : List Int} (hq : rightE s q ≠ 0) : Bst s (L ++ [q]) f b := by
  rcases h with ⟨h1, h2⟩ | ⟨h1, ⟨r, hr, h3, h4⟩, h5⟩
  · refine .inl ⟨h1, fun x hx => ?_⟩
    rcases List.mem_append.1 hx with h | h
    · exact h2 x h
    · obtain rfl := List.mem_singleton.1 h; exact hq
  · refine .inr ⟨h1, ⟨r, by simp [hr], h3, h4⟩, fun x hx hx0 => ?_⟩
    rcases List.mem_append.1 hx with h | h
    · exact h5 x h hx0
    · obtain rfl := List.mem_singleton.1 h; exact absurd hx0 hq
theorem Bst.take {s : Sh} {L : List (List Int)} {f : Bool} {b : Int} (h : Bst s L f b) {q : List Int} (hq : rightE s q = 0) (hl : f = false ∨ s.cost (q.map Int.toNat) < b) : Bst s (L ++ [q]) true (s.cost (q.map Int.toNat)) := by
  refine .inr ⟨rfl, ⟨q, by simp, hq, rfl⟩, fun x hx hx0 => ?_⟩
  rcases List.mem_append.1 hx with h6 | h6
  · rcases h with ⟨-, h2⟩ | ⟨h1, -, h5⟩
    · exact absurd hx0 (h2 x h6)
    · rcases hl with rfl | hl
      · cases h1
      · have := h5 x h6 hx0; omega
  · obtain rfl := List.mem_singleton.1 h6; omega
theorem Bst.keep {s : Sh} {L : List (List Int)} {b : Int} (h : Bst s L true b) {q : List Int} (hl : ¬ s.cost (q.map Int.toNat) < b) : Bst s (L ++ [q]) true b := by
  rcases h with ⟨h1, -⟩ | ⟨-, ⟨r, hr, h3, h4⟩, h5⟩
  · cases h1
  · refine .inr ⟨rfl, ⟨r, by simp [hr], h3, h4⟩, fun x hx hx0 => ?_⟩
    rcases List.mem_append.1 hx with h6 | h6
    · exact h5 x h6 hx0
    · obtain rfl := List.mem_singleton.1 h6; omega
/-- all orders have been gone through -/
theorem Bst.all {s : Sh} (hok : s.Ok) (h5 : s.acts.length ≤ 5) {f : Bool} {b : Int} (h : Bst s (Nxt.all s.acts.length) f b) : (f = true ∧ ∃ q, s.solve = some q ∧ s.least = b) ∨ (f = false ∧ s.solve = none) := by
  have hin : ∀ k ∈ s.progs, toI k ∈ Nxt.all s.acts.length := fun k hk => by
    obtain ⟨h1, -⟩ := (Sh.progs_iff hok).1 hk
    obtain ⟨h3, h4, h6⟩ := isOrd_iff.1 h1
    rw [← map_ci]
    exact Nxt.all_mem h5 hok.n1 h3 h4 h6
  rcases h with ⟨h1, h2⟩ | ⟨h1, ⟨q, hq, h3, h4⟩, h6⟩
  · refine .inr ⟨h1, (Sh.solve_none hok).2 ?_⟩
    rw [List.eq_nil_iff_forall_not_mem]
    exact fun k hk => h2 _ (hin k hk) (prog_right hok hk)
  · obtain ⟨-, k, rfl, hk, hp⟩ := rightE_prog h3
    rw [hk] at h4
    have hne : s.solve ≠ none := fun e => by rw [Sh.solve_none hok] at e; rw [e] at hp; cases hp
    obtain ⟨r, hr⟩ := Option.ne_none_iff_exists'.1 hne
    refine .inl ⟨h1, r, hr, ?_⟩
    obtain ⟨h7, h8, -⟩ := Sh.solve_some hok hr
    have h9 := h6 _ (hin r h7) (prog_right hok h7)
    rw [toI_toNat] at h9
    have := Sh.least_le hok hp
    omega
set_option maxRecDepth 100000 in
set_option maxHeartbeats 10000000 in
theorem none_law (s : Sh) (p : ShP) (w : World) (h : ShW w s p) :
    Calls Try.prog 8 #[shV s p] w fun e w' => e = .returned (.bool true) ∧ Below w.heap.size w w' := by
  have hb0 := ext_alloc w (.cells (shC s p).toArray 26)
  have hS := Blk.new w 26 (shC s p)
  have h0 := h.ext hb0
  clear h
  unfold shV at *
  unfold shC at *
  go_enter Try.func8, Try.ntmps8
  go_upto_region 1 with fail
  change Blk (w.alloc (.cells #[.slice p.A s.acts.length p.cA, .slice p.R s.rest.length p.cR, .slice p.I s.ins.length p.cI, .slice p.O s.outs.length p.cO, .int .i64 s.cover, .int .i64 s.dull, .slice p.B s.before.length p.cB] 26)) _ _ _ at hS
  generalize w.alloc (.cells #[.slice p.A s.acts.length p.cA, .slice p.R s.rest.length p.cR, .slice p.I s.ins.length p.cI, .slice p.O s.outs.length p.cO, .int .i64 s.cover, .int .i64 s.dull, .slice p.B s.before.length p.cB] 26) = W0 at *
  have x0 : W0.cell? ⟨w.heap.size, 0, none⟩ = _ := hS.cell (i := 0) rfl
  have x1 : W0.cell? ⟨w.heap.size, 1, none⟩ = _ := hS.cell (i := 1) rfl
  have x2 : W0.cell? ⟨w.heap.size, 2, none⟩ = _ := hS.cell (i := 2) rfl
  have x3 : W0.cell? ⟨w.heap.size, 3, none⟩ = _ := hS.cell (i := 3) rfl
  have x4 : W0.cell? ⟨w.heap.size, 4, none⟩ = _ := hS.cell (i := 4) rfl
  have x5 : W0.cell? ⟨w.heap.size, 5, none⟩ = _ := hS.cell (i := 5) rfl
  have x6 : W0.cell? ⟨w.heap.size, 6, none⟩ = _ := hS.cell (i := 6) rfl
  go_wp2_with fail
  refine (Few_any s p W0 h0).mono ?_; rintro e W1 ⟨rfl, hb1⟩
  cases hf : s.fewB
  · clear x0 x1 x2 x3 x4 x5 x6
    go_wp2_with fail
    refine (wakes_any _).mono ?_; rintro e wz ⟨rfl, hbz⟩
    go_wp2
    go_ret
    exact ⟨rfl, ext_trans (ext_trans hb0 hb1) hbz⟩
  have hm1 := (h0.few hf).ext hb1
  have hS1 := hS.ext hb1
  have hbw := ext_trans hb0 hb1
  clear hb0 hb1 h0 hS hf x0 x1 x2 x3 x4 x5 x6
  have x0 : W1.cell? ⟨w.heap.size, 0, none⟩ = _ := hS1.cell (i := 0) rfl
  have x1 : W1.cell? ⟨w.heap.size, 1, none⟩ = _ := hS1.cell (i := 1) rfl
  have x2 : W1.cell? ⟨w.heap.size, 2, none⟩ = _ := hS1.cell (i := 2) rfl
  have x3 : W1.cell? ⟨w.heap.size, 3, none⟩ = _ := hS1.cell (i := 3) rfl
  have x4 : W1.cell? ⟨w.heap.size, 4, none⟩ = _ := hS1.cell (i := 4) rfl
  have x5 : W1.cell? ⟨w.heap.size, 5, none⟩ = _ := hS1.cell (i := 5) rfl
  have x6 : W1.cell? ⟨w.heap.size, 6, none⟩ = _ := hS1.cell (i := 6) rfl
  go_wp2_with fail
  refine (Right_any s p W1 hm1).mono ?_; rintro e W2 ⟨rfl, hb2⟩
  have hm2 := hm1.ext hb2
  have hS2 := hS1.ext hb2
  have hbw2 := ext_trans hbw hb2
  clear hm1 hS1 hbw hb2 x0 x1 x2 x3 x4 x5 x6
  cases hok : s.okB
  · clear hok
    go_wp2_with fail
    refine (wakes_any _).mono ?_; rintro e wz ⟨rfl, hbz⟩
    go_wp2
    go_ret
    exact ⟨rfl, ext_trans hbw2 hbz⟩
  have Hok := Lib.hid (Sh.ok_of hok)
  have n8 := Hok.out.n8
  have n1 := Hok.out.n1
  clear hok
  have x0 : W2.cell? ⟨w.heap.size, 0, none⟩ = _ := hS2.cell (i := 0) rfl
  by_cases g1 : s.acts.length ≤ 5
  rotate_left
  · have g1' : (s.acts.length : Int) > 5 := by omega
    go_wp2_with fail
    refine (wakes_any _).mono ?_; rintro e wz ⟨rfl, hbz⟩
    go_wp2
    go_ret
    exact ⟨rfl, ext_trans hbw2 hbz⟩
  have g1' : ¬ (s.acts.length : Int) > 5 := by omega
  go_upto_region 3 with fail
  clear x0 g1' 
  have x0 : W2.cell? ⟨w.heap.size, 0, none⟩ = _ := hS2.cell (i := 0) rfl
  have x1 : W2.cell? ⟨w.heap.size, 1, none⟩ = _ := hS2.cell (i := 1) rfl
  have x2 : W2.cell? ⟨w.heap.size, 2, none⟩ = _ := hS2.cell (i := 2) rfl
  have x3 : W2.cell? ⟨w.heap.size, 3, none⟩ = _ := hS2.cell (i := 3) rfl
  have x4 : W2.cell? ⟨w.heap.size, 4, none⟩ = _ := hS2.cell (i := 4) rfl
  have x5 : W2.cell? ⟨w.heap.size, 5, none⟩ = _ := hS2.cell (i := 5) rfl
  have x6 : W2.cell? ⟨w.heap.size, 6, none⟩ = _ := hS2.cell (i := 6) rfl
  go_wp2_with fail
  refine (Show_any s p W2 hm2).mono ?_; rintro e W3 ⟨⟨p1, rfl, hm3⟩, hb3⟩
  clear x0 x1 x2 x3 x4 x5 x6
  have hbw3 := ext_trans hbw2 hb3
  have hY : Blk (W3.alloc (.cells #[.slice p1.A s.acts.length p1.cA, .slice p1.R s.rest.length p1.cR, .slice p1.I s.ins.length p1.cI, .slice p1.O s.outs.length p1.cO, .int .i64 s.cover, .int .i64 s.dull, .slice p1.B s.before.length p1.cB] 35)) W3.heap.size 35 (shC s p1) := Blk.new W3 35 (shC s p1)
  have hAl := ext_alloc W3 (.cells #[.slice p1.A s.acts.length p1.cA, .slice p1.R s.rest.length p1.cR, .slice p1.I s.ins.length p1.cI, .slice p1.O s.outs.length p1.cO, .int .i64 s.cover, .int .i64 s.dull, .slice p1.B s.before.length p1.cB] 35)
  have hm4 := hm3.ext hAl
  have hbw4 := ext_trans hbw3 hAl
  have hS4 := (hS2.ext hb3).ext hAl
  clear hm2 hS2 hbw2 hb3 hm3 hbw3 hAl
  unfold shV
  unfold shC at hY
  go_upto_region 4 with fail
  generalize W3.heap.size = X at *
  generalize W3.alloc (.cells #[.slice p1.A s.acts.length p1.cA, .slice p1.R s.rest.length p1.cR, .slice p1.I s.ins.length p1.cI, .slice p1.O s.outs.length p1.cO, .int .i64 s.cover, .int .i64 s.dull, .slice p1.B s.before.length p1.cB] 35) = W4 at *
  have x0 : W4.cell? ⟨X, 0, none⟩ = _ := hY.cell (i := 0) rfl
  have x1 : W4.cell? ⟨X, 1, none⟩ = _ := hY.cell (i := 1) rfl
  have x2 : W4.cell? ⟨X, 2, none⟩ = _ := hY.cell (i := 2) rfl
  have x3 : W4.cell? ⟨X, 3, none⟩ = _ := hY.cell (i := 3) rfl
  have x4 : W4.cell? ⟨X, 4, none⟩ = _ := hY.cell (i := 4) rfl
  have x5 : W4.cell? ⟨X, 5, none⟩ = _ := hY.cell (i := 5) rfl
  have x6 : W4.cell? ⟨X, 6, none⟩ = _ := hY.cell (i := 6) rfl
  go_wp2_with fail
  refine (Best_any s p1 W4 hm4).mono ?_; rintro e W5 ⟨v, rfl, hb5, hcase⟩
  obtain ⟨vs, le, vt, ee, rfl, hcs⟩ : ∃ vs le vt ee, v = .tuple #[vs, .int .i64 le, vt, .int .i64 ee] ∧ ((ee = 7 ∧ s.solve = none) ∨ (ee = 0 ∧ ∃ q, s.solve = some q ∧ le = s.least)) := by
    rcases hcase with ⟨h1, -⟩ | ⟨-, hso, rfl⟩ | ⟨-, q, sl, tv, hi, hso, hsl, htv, rfl⟩
    · rw [Sh.ok_iff.2 Hok.out] at h1; cases h1
    · exact ⟨_, _, _, _, rfl, .inl ⟨rfl, hso⟩⟩
    · exact ⟨_, _, _, _, rfl, .inr ⟨rfl, q, hso, rfl⟩⟩
  have Hcs := Lib.hid hcs
  clear hcase hcs
  have HE := Lib.hid (fun W (hW : Below W5.heap.size W5 W) => And.intro ((hm4.ext hb5).ext hW) (And.intro ((hY.ext hb5).ext hW) (And.intro (ext_trans (ext_trans hbw4 hb5) hW) ((hS4.ext hb5).ext hW))))
  clear hm4 hY hbw4 hb5 hS4 x0 x1 x2 x3 x4 x5 x6
  go_upto_block 0 with fail
  go_wp2
  go_loopw [8, 9] (fun v t wr => ∃ (i : Nat), t = .int .i64 i ∧ i ≤ s.acts.length ∧ Below W5.heap.size W5 wr ∧ OwnL wr W5.heap.size 3 1 encI v (toI (List.range i))) (fun _ t _ => s.acts.length - (intOf t).toNat)
  case atStart => exact ⟨0, rfl, by omega, Below.refl _ _, OwnL.nil⟩
  case round =>
    obtain ⟨i, rfl, hi, hb, hv⟩ := hrel
    have x0 : wr.cell? ⟨w.heap.size, 0, none⟩ = _ := (HE.out wr hb).2.2.2.cell (i := 0) rfl
    by_cases hlt : i < s.acts.length
    · have hlt' : (i : Int) < (s.acts.length : Int) := by omega
      have hi0 : (0 : Int) ≤ (i : Int) := by omega
      have Hv := Lib.hid hv
      have hbs := hb.size
      clear hv
      go_wp2_with (at_builtin; refine app1 encI 23 3 1 8 et23 (by decide) (by decide) encI_len encI_one rfl _ _ rfl W5.heap.size _ (toI (List.range i)) rfl (Hv.out.alloc _) wr.heap.size rfl (i : Int) (encI_cell ((Blk.new wr 3 [.int .i64 (i : Int)]).cell rfl)) (by rw [toI_len, List.length_range]; omega) (by simp; omega) ?_; intro g2 cap2 V2 h2 hb2 hg2 hat2; have HF := Lib.hid (And.intro ((hb.alloc hbs _).trans hb2) h2); clear h2 hb2 hg2 hat2)
      go_roundw
      case rel => exact ⟨i + 1, by go_num, by omega, HF.out.1, by rw [List.range_succ, toI_snoc]; exact HF.out.2⟩
      case measure => simp [intOf]; omega
    · obtain rfl : i = s.acts.length := by omega
      obtain ⟨g, cap, rfl, hg⟩ : ∃ g cap, u8 = .slice (some ⟨g, 0, none⟩) s.acts.length cap ∧ W5.heap.size ≤ g := by
        obtain ⟨g, cap, h1, h2, -⟩ := hv.blk encI_len (by rw [toI_len, List.length_range]; omega)
        exact ⟨g, cap, by rw [h1, toI_len, List.length_range], h2⟩
      have HAll := Lib.hid (fun f b h => Bst.all Hok.out g1 (f := f) (b := b) h)
      have HAt := Lib.hid (fun l hl => Nxt.all_at g1 n1 (l := l) hl)
      have HNx := Lib.hid (fun j hj => Nxt.all_next g1 n1 (j := j) hj)
      have hA0 : ∃ t, Nxt.all s.acts.length = toI (List.range s.acts.length) :: t := Nxt.all_zero
      generalize Nxt.all s.acts.length = A at *
      have hA1 : 0 < A.length := by obtain ⟨t, rfl⟩ := hA0; simp
      have HA0 := Lib.hid (show A[0]? = some (toI (List.range s.acts.length)) by obtain ⟨t, rfl⟩ := hA0; rfl)
      have Hv := Lib.hid hv
      clear hA0 hv hlt hi
      go_upto_block 2 with fail
      clear x0
      go_wp2
      go_loopg [10, 11, 12] A.length (fun g0 u10 u11 u12 wq => ∃ (j : Nat) (f : Bool) (b : Int) (m : Bool) (cur : List Int), A.length - j ≤ g0 ∧ u10 = .bool f ∧ u11 = .int .i64 b ∧ u12 = .bool m ∧ j ≤ A.length ∧ Hid (m = true ↔ j < A.length) ∧ Hid (m = true → A[j]? = some cur) ∧ Hid (Bst s (A.take j) f b) ∧ Below W5.heap.size W5 wq ∧ OwnL wq W5.heap.size 3 1 encI (.slice (some ⟨g, 0, none⟩) s.acts.length cap) cur)
      case atStart => exact ⟨0, false, 0, true, _, by omega, rfl, rfl, rfl, by omega, Lib.hid (by simp [hA1]), Lib.hid (fun _ => HA0.out), Lib.hid Bst.nil, hb, Hv.out⟩
      case round =>
        clear hb Hv HA0
        obtain ⟨j, f, b, m, cur, hjg, rfl, rfl, rfl, hj, Hm, Hc, HB, hb, hv⟩ := hrel
        cases m
        · obtain rfl : j = A.length := by
            have := Hm.out
            simp at this
            omega
          have hB := HB.out
          rw [List.take_length] at hB
          have hfin := HAll.out f b hB
          have hbq := (HE.out _ hb).2.2.1
          clear hB HB HAll HAt HNx Hm Hc hv hj hjg
          rcases hfin with ⟨rfl, q, hq, hle⟩ | ⟨rfl, hq⟩
          · rcases Hcs.out with ⟨-, h1⟩ | ⟨rfl, q2, h1, rfl⟩
            · rw [hq] at h1; cases h1
            · clear Hcs hq h1 hb
              generalize s.least = ls at *
              subst hle
              go_wp2_with fail
              refine (wakes_any _).mono ?_; rintro e wz ⟨rfl, hbz⟩
              go_wp2
              go_ret
              exact ⟨rfl, ext_trans hbq hbz⟩
          · rcases Hcs.out with ⟨rfl, h1⟩ | ⟨-, q2, h1, -⟩
            · clear Hcs hq h1 hb
              go_wp2_with fail
              refine (wakes_any _).mono ?_; rintro e wz ⟨rfl, hbz⟩
              go_wp2
              go_ret
              exact ⟨rfl, ext_trans hbq hbz⟩
            · rw [hq] at h1; cases h1
        · have hjl : j < A.length := Hm.out.1 (by first | rfl | trivial)
          have hc := Hc.out (by first | rfl | trivial)
          have hcm : cur ∈ A := List.mem_of_getElem? hc
          obtain ⟨hcl, -⟩ := HAt.out cur hcm
          have hnx := HNx.out j hjl
          have hcj : A[j] = cur := by rw [List.getElem?_eq_getElem hjl] at hc; exact Option.some.inj hc
          rw [hcj] at hnx
          have htk : A.take (j + 1) = A.take j ++ [cur] := by rw [List.take_succ_eq_append_getElem hjl, hcj]
          have Hnx := Lib.hid hnx
          have Htk := Lib.hid htk
          have Hcl := Lib.hid hcl
          have Hv := Lib.hid hv
          have hbs := hb.size
          clear hnx htk hcl hcj hcm hc Hc Hm HAt HNx HAll hv hj
          go_upto_region 14 with fail
          refine Dr.wp_region_plan 9 [] (.q [0, 1] (.e1 2 (.e1 3 (.q [4, 5, 6, 7, 8] .done)))) (by kernel_rfl) (by kernel_rfl) ?_
          have hbd := hb.drew
          have Hvd := Lib.hid (Hv.out.ext (ext_drew wr))
          clear Hv hb
          generalize World.drew _ = V0 at *
          obtain ⟨e1, e2, e3, -⟩ := HE.out V0 hbd
          have q0 := Dr.cell0 (e2.cell (i := 0) rfl)
          have q1 := Dr.cell0 (e2.cell (i := 1) rfl)
          have q2 := Dr.cell0 (e2.cell (i := 2) rfl)
          have q3 := Dr.cell0 (e2.cell (i := 3) rfl)
          have q4 := Dr.cell0 (e2.cell (i := 4) rfl)
          have q5 := Dr.cell0 (e2.cell (i := 5) rfl)
          have q6 := Dr.cell0 (e2.cell (i := 6) rfl)
          have CL := Lib.hid (list_any (some ⟨g, 0, none⟩) s.acts.length cap cur V0 Hcl.out (by omega) (by have := Hvd.out.cl encI_len; exact this))
          clear e1 e2 e3
          refine Dr.plan_q (l := [_, _]) rfl (fun K hK => ?_)
          iterate 2 (go_big_quiet_step (fail))
          refine wpQuiet_nil (hK _ ?_); clear hK K q0 q1 q2 q3 q4 q5 q6
          refine Dr.plan_e rfl (by rfl) (fun K hK => ?_)
          go_wp2_with fail
          refine CL.out.mono ?_; rintro e V1 ⟨vl, rfl, ⟨A5, c5, rfl, -, -, hd5, -⟩, hb6⟩
          rw [Hcl.out]
          refine hK _ _ (.of hb6) ?_; clear hK K CL
          have hbd1 := hbd.trans (hb6.mono hbd.size)
          have Hvd1 := Lib.hid (Hvd.out.ext hb6)
          have CC := Lib.hid (Cost_any s p1 A5 s.acts.length c5 cur V1 (HE.out V1 hbd1).1 Hcl.out (by omega) hd5)
          clear hbd hb6 hd5 Hvd
          refine Dr.plan_e rfl (by rfl) (fun K hK => ?_)
          go_wp2_with fail
          refine CC.out.mono ?_; rintro e V2 ⟨⟨x, gz, rfl, hgz, -, hg1⟩, hb7⟩
          have Hgz := Lib.hid hgz
          have Hg1 := Lib.hid hg1
          clear hgz hg1
          refine hK _ _ (.of hb7) ?_; clear hK K CC
          have hbd2 := hbd1.trans (hb7.mono hbd1.size)
          have Hvd2 := Lib.hid (Hvd1.out.ext hb7)
          clear hbd1 hb7 Hvd1
          refine Dr.plan_q (l := [_, _, _, _, _]) rfl (fun K hK => ?_)
          iterate 5 (go_big_quiet_step (fail))
          refine wpQuiet_nil (hK _ ?_); clear hK K
          refine Dr.plan_end rfl ?_
          have CN := Lib.hid (next_any W5.heap.size g s.acts.length cap cur V2 Hvd2.out Hcl.out n1 (by omega))
          have hnm : (Nxt.next cur).isSome = true ↔ j + 1 < A.length := by rw [Hnx.out]; simp
          have hnc : (Nxt.next cur).isSome = true → A[j + 1]? = some ((Nxt.next cur).getD cur) := fun h => by
            obtain ⟨y, hy⟩ := Option.isSome_iff_exists.1 h
            rw [hy, ← Hnx.out, hy]; rfl
          generalize (Nxt.next cur).getD cur = nc at *
          generalize (Nxt.next cur).isSome = nm at *
          have Hnm := Lib.hid hnm
          have Hnc := Lib.hid hnc
          clear Hnx hnm hnc Hvd2
          by_cases hz : gz = 0
          rotate_left
          · have HB2 := Lib.hid (show Bst s (A.take (j + 1)) f b from by rw [Htk.out]; exact HB.out.bad (by rw [← Hgz.out]; exact hz))
            clear HB Hgz Hg1
            go_wp2_with fail
            refine CN.out.mono ?_; rintro e V3 ⟨rfl, hb8, hv8⟩
            have HF := Lib.hid (And.intro (hbd2.trans hb8) hv8)
            clear CN hb8 hv8 hbd2
            go_wp2
            go_roundg (A.length - (j + 1))
            case measure => omega
            case rel => exact ⟨j + 1, f, b, nm, nc, by omega, rfl, rfl, rfl, by omega, Hnm, Hnc, HB2, HF.out.1, HF.out.2⟩
          subst hz
          have hz0 := Hgz.out.symm
          have hx := Hg1.out (by first | rfl | trivial)
          clear Hgz Hg1
          cases f
          · have HB2 := Lib.hid (show Bst s (A.take (j + 1)) true x from by rw [Htk.out, hx]; exact HB.out.take hz0 (.inl rfl))
            clear HB hz0 hx
            go_wp2_with fail
            refine CN.out.mono ?_; rintro e V3 ⟨rfl, hb8, hv8⟩
            have HF := Lib.hid (And.intro (hbd2.trans hb8) hv8)
            clear CN hb8 hv8 hbd2
            go_wp2
            go_roundg (A.length - (j + 1))
            case measure => omega
            case rel => exact ⟨j + 1, true, x, nm, nc, by omega, rfl, rfl, rfl, by omega, Hnm, Hnc, HB2, HF.out.1, HF.out.2⟩
          by_cases hxb : x < b
          · have HB2 := Lib.hid (show Bst s (A.take (j + 1)) true x from by rw [Htk.out, hx]; exact HB.out.take hz0 (.inr (by rw [← hx]; exact hxb)))
            clear HB hz0 hx
            go_wp2_with fail
            refine CN.out.mono ?_; rintro e V3 ⟨rfl, hb8, hv8⟩
            have HF := Lib.hid (And.intro (hbd2.trans hb8) hv8)
            clear CN hb8 hv8 hbd2
            go_wp2
            go_roundg (A.length - (j + 1))
            case measure => omega
            case rel => exact ⟨j + 1, true, x, nm, nc, by omega, rfl, rfl, rfl, by omega, Hnm, Hnc, HB2, HF.out.1, HF.out.2⟩
          · have HB2 := Lib.hid (show Bst s (A.take (j + 1)) true b from by rw [Htk.out]; exact HB.out.keep (by rw [← hx]; exact hxb))
            clear HB hz0 hx
            go_wp2_with fail
            refine CN.out.mono ?_; rintro e V3 ⟨rfl, hb8, hv8⟩
            have HF := Lib.hid (And.intro (hbd2.trans hb8) hv8)
            clear CN hb8 hv8 hbd2
            go_wp2
            go_roundg (A.length - (j + 1))
            case measure => omega
            case rel => exact ⟨j + 1, true, b, nm, nc, by omega, rfl, rfl, rfl, by omega, Hnm, Hnc, HB2, HF.out.1, HF.out.2⟩
end Go.Proofs.Ytcnidhcdkbfpcaa
