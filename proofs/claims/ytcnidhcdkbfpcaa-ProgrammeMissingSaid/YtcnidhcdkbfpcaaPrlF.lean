/- Walks: the reference's better and Best. -/
import Derived.Test.YtcnidhcdkbfpcaaPgK
namespace Go.Pg
open Go.Pl
namespace Sh
/-- is a best list so far one of whole length and of acts? -/
def GoodO (s : Sh) (o : Option (List Nat)) : Prop := ∀ l, o = some l → l.length = s.acts.length ∧ ∀ x ∈ l, x < s.acts.length
theorem GoodO.none {s : Sh} : s.GoodO none := fun _ h => by cases h
theorem ext_good {s : Sh} : ∀ (k : Nat) (now : List Nat), (∀ x ∈ now, x < s.acts.length) → ∀ p ∈ s.ext k now, p.length = now.length + k ∧ ∀ x ∈ p, x < s.acts.length
  | 0, now, h, p, hp => by
    have : p = now := by simpa [ext] using hp
    rw [this]; exact ⟨rfl, h⟩
  | k + 1, now, h, p, hp => by
    unfold ext at hp
    rw [List.mem_flatMap] at hp
    obtain ⟨c, hc, hp⟩ := hp
    have hc2 : c < s.acts.length := by simpa using (List.mem_filter.1 hc).1
    obtain ⟨h1, h2⟩ := ext_good k (now ++ [c]) (fun x hx => by rcases List.mem_append.1 hx with h3 | h3; exact h x h3; rw [List.mem_singleton] at h3; omega) p hp
    exact ⟨by rw [h1, List.length_append, List.length_singleton]; omega, h2⟩
theorem pick_mem {α : Type} (c : α → Int) : ∀ (l : List α) (o : Option α) (r : α), l.foldl (pick c) o = some r → r ∈ l ∨ o = some r
  | [], o, r, h => .inr h
  | x :: l, o, r, h => by
    rcases pick_mem c l (pick c o x) r h with h1 | h1
    · exact .inl (List.mem_cons_of_mem _ h1)
    · unfold pick at h1
      split at h1
      · injection h1 with h1; exact .inl (by rw [h1]; simp)
      · split at h1
        · injection h1 with h1; exact .inl (by rw [h1]; simp)
        · exact .inr h1
theorem good_fold {s : Sh} {l : List (List Nat)} {o : Option (List Nat)} (ho : s.GoodO o) (hl : ∀ p ∈ l, p.length = s.acts.length ∧ ∀ x ∈ p, x < s.acts.length) : s.GoodO (l.foldl (pick s.cost) o) := by
  intro r hr
  rcases pick_mem _ _ _ _ hr with h | h
  · exact hl r h
  · exact ho r h
/-- what becomes of the best list while the acts up to i follow -/
def upB (s : Sh) (k : Nat) (now : List Nat) (o : Option (List Nat)) (i : Nat) : Option (List Nat) := (((List.range i).filter (s.can now)).flatMap fun c => s.ext k (now ++ [c])).foldl (pick s.cost) o
theorem upB_succ {s : Sh} (k : Nat) (now : List Nat) (o : Option (List Nat)) (i : Nat) : s.upB k now o (i + 1) = if s.can now i = true then (s.ext k (now ++ [i])).foldl (pick s.cost) (s.upB k now o i) else s.upB k now o i := by
  unfold upB
  rw [List.range_succ, List.filter_append, List.flatMap_append, List.foldl_append]
  by_cases h : s.can now i = true
  · rw [if_pos h, List.filter_cons, if_pos h]; simp
  · rw [if_neg h, List.filter_cons, if_neg h]; simp
theorem upB_end {s : Sh} (k : Nat) (now : List Nat) (o : Option (List Nat)) : s.upB k now o s.acts.length = (s.ext (k + 1) now).foldl (pick s.cost) o := rfl
theorem upB_good {s : Sh} {k : Nat} {now : List Nat} {o : Option (List Nat)} {i : Nat} (ho : s.GoodO o) (hn : ∀ x ∈ now, x < s.acts.length) (hk : now.length + (k + 1) = s.acts.length) (hi : i ≤ s.acts.length) : s.GoodO (s.upB k now o i) := by
  refine good_fold ho fun p hp => ?_
  rw [List.mem_flatMap] at hp
  obtain ⟨c, hc, hp⟩ := hp
  have hc2 : c < i := by simpa using (List.mem_filter.1 hc).1
  obtain ⟨h1, h2⟩ := ext_good k (now ++ [c]) (fun x hx => by rcases List.mem_append.1 hx with h3 | h3; exact hn x h3; rw [List.mem_singleton] at h3; omega) p hp
  exact ⟨by rw [h1, List.length_append, List.length_singleton]; omega, h2⟩
theorem can_at {s : Sh} (now : List Nat) (i : Nat) : s.can now i = (!now.contains i && decide (s.whyAt (now ++ [i]) now.length = 0)) := by
  unfold can whyAt
  rw [List.take_left', List.getD_eq_getElem?_getD]
  · simp
  · rfl
end Sh
end Go.Pg
namespace Go.Proofs.Ytcnidhcdkbfpcaa
open Go.RowKit Go.Bs Go.Pg Go.Pl Go.Sort
/-- a list or none, in memory -/
def OptV (W : World) (v : Value) : Option (List Nat) → Prop
  | none => v = .slice none 0 0
  | some l => ∃ a c, v = .slice (some a) l.length c ∧ Cells W (some a) 1 encI (toI l)
theorem OptV.ext {W W' : World} {v : Value} {o : Option (List Nat)} (h : OptV W v o) (hb : Below W.heap.size W W') : OptV W' v o := by
  cases o with
  | none => exact h
  | some l => obtain ⟨a, c, e, hc⟩ := h; exact ⟨a, c, e, hc.ext hb⟩
theorem OptV.of_own {W : World} {base : Nat} {v : Value} {l : List Nat} (h : OwnL W base 3 1 encI v (toI l)) (hl : 0 < l.length) : OptV W v (some l) := by
  obtain ⟨A, c, e, -, -, hc⟩ := h.cells encI_len
  obtain ⟨b, off, rfl, -, -⟩ := hc.at1 (k := 0) (by rw [toI_len]; exact hl) rfl
  exact ⟨_, c, by rw [e, toI_len], hc⟩
set_option maxRecDepth 100000 in
set_option maxHeartbeats 4000000 in
theorem better_any (s : Sh) (p : ShP) (hok : s.Ok) : ∀ (k : Nat) (now : List Nat) (o : Option (List Nat)) (A : Option Addr) (m c : Nat) (v : Value) (w : World), ShM w s p → now.length + k = s.acts.length → now.length = m → (∀ x ∈ now, x < s.acts.length) →
    Cells w A 1 encI (toI now) → OptV w v o → s.GoodO o →
    Calls Try.prog 49 #[shV s p, .slice A m c, v] w fun e w' => (∃ v', e = .returned v' ∧ OptV w' v' ((s.ext k now).foldl (pick s.cost) o)) ∧ Below w.heap.size w w' := by
  intro k
  induction k with
  | zero =>
    intro now o A m c v w h hk hm hn hd hv hg
    have n8 := hok.n8
    have n1 := hok.n1
    have hb0 := ext_alloc w (.cells (shC s p).toArray 26)
    have hS := Blk.new w 26 (shC s p)
    have h0 := h.ext hb0
    have hd0 := hd.ext hb0
    have hv0 := hv.ext hb0
    have hR : (s.ext 0 now).foldl (pick s.cost) o = pick s.cost o now := rfl
    rw [hR]
    have Hm := Lib.hid hm
    have Hk := Lib.hid hk
    have HC := Lib.hid (fun W h hd => RCost_any s p A m c now W h hok hn hm (by omega) hd)
    have hmn : ((m : Int) == (s.acts.length : Int)) = true := by simp; omega
    have hpos : 0 < now.length := by omega
    have Hpos := Lib.hid hpos
    have Htl := Lib.hid (show (toI now).length = m from by rw [toI_len, hm])
    clear h hd hv hm hk hR hpos
    have hm12 : m ≤ 8 := by have := Hm.out; have := Hk.out; omega
    unfold shV at *
    unfold shC at *
    go_enter Try.func49, Try.ntmps49
    go_upto_region 1 with fail
    change Blk (w.alloc (.cells #[.slice p.A s.acts.length p.cA, .slice p.R s.rest.length p.cR, .slice p.I s.ins.length p.cI, .slice p.O s.outs.length p.cO, .int .i64 s.cover, .int .i64 s.dull, .slice p.B s.before.length p.cB] 26)) _ _ _ at hS
    generalize w.alloc (.cells #[.slice p.A s.acts.length p.cA, .slice p.R s.rest.length p.cR, .slice p.I s.ins.length p.cI, .slice p.O s.outs.length p.cO, .int .i64 s.cover, .int .i64 s.dull, .slice p.B s.before.length p.cB] 26) = W0 at *
    have x0 : W0.cell? ⟨w.heap.size, 0, none⟩ = _ := hS.cell (i := 0) rfl
    go_upto_region 2 with fail
    clear x0
    refine Dr.wp_region_plan 11 [] (.q [0, 1, 2, 3, 4, 6, 7] (.e1 5 (.e1 8 (.q [9, 10] .done)))) (by kernel_rfl) (by kernel_rfl) ?_
    have hb1 := ext_trans hb0 (ext_drew W0)
    have hS1 := hS.ext (ext_drew W0)
    have h1 := h0.ext (ext_drew W0)
    have hd1 := hd0.ext (ext_drew W0)
    have hv1 := hv0.ext (ext_drew W0)
    clear hb0 hS h0 hd0 hv0
    generalize World.drew _ = W at *
    cases o with
    | none =>
      have hv2 : v = .slice none 0 0 := hv1
      subst hv2
      clear hv1
      have he : ∀ w, (binOp .eql 23 (.slice none 0 0) (.slice none 0 0)).run Try.prog w = .ok (.bool true) w := fun _ => by kernel_rfl
      refine Dr.plan_q (l := [_, _, _, _, _, _, _]) rfl (fun K hK => ?_)
      iterate 7 (go_big_quiet_step (fail))
      refine wpQuiet_nil (hK _ ?_); clear hK K
      refine Dr.plan_e_skip rfl (by rfl) ?_; go_frame
      refine Dr.plan_e_skip rfl (by rfl) ?_; go_frame
      refine Dr.plan_q (l := [_, _]) rfl (fun K hK => ?_)
      iterate 2 (go_big_quiet_step (fail))
      refine wpQuiet_nil (hK _ ?_); clear hK K
      refine Dr.plan_end rfl ?_
      have ho := own_new W 3 1 encI
      have hba := ext_alloc W (.cells #[] 3)
      have hd2 := hd1.ext hba
      go_wp2_with (at_builtin; refine app_ints 23 3 et23 rfl _ _ rfl W.heap.size _ [] rfl ho A m c (toI now) Htl.out rfl hd2 (by simp; omega) (by simp) ?_; intro v' w' hown hb _ _)
      go_ret
      exact ⟨⟨_, rfl, OptV.of_own (by simpa using hown) Hpos.out⟩, ext_trans hb1 (hba.trans hb)⟩
    | some b =>
      obtain ⟨a, cb, rfl, hcb⟩ := hv1
      obtain ⟨hbl, hbx⟩ := hg b rfl
      have HB := Lib.hid (fun W h hd => RCost_any s p (some a) b.length cb b W h hok hbx rfl (by omega) hd)
      have he : ∀ w, (binOp .eql 23 (.slice (some a) b.length cb) (.slice none 0 0)).run Try.prog w = .ok (.bool false) w := fun _ => by kernel_rfl
      have HP := Lib.hid (show pick s.cost (some b) now = if s.cost now < s.cost b then some now else some b from rfl)
      have Hbl := Lib.hid hbl
      clear hbl
      have q0 := Dr.cell0 (hS1.cell (i := 0) rfl)
      have q1 := Dr.cell0 (hS1.cell (i := 1) rfl)
      have q2 := Dr.cell0 (hS1.cell (i := 2) rfl)
      have q3 := Dr.cell0 (hS1.cell (i := 3) rfl)
      have q4 := Dr.cell0 (hS1.cell (i := 4) rfl)
      have q5 := Dr.cell0 (hS1.cell (i := 5) rfl)
      have q6 := Dr.cell0 (hS1.cell (i := 6) rfl)
      have Hm1 := Lib.hid h1
      have Hd1 := Lib.hid hd1
      have Hcb := Lib.hid hcb
      clear h1 hd1 hcb
      refine Dr.plan_q (l := [_, _, _, _, _, _, _]) rfl (fun K hK => ?_)
      iterate 7 (go_big_quiet_step (fail))
      refine wpQuiet_nil (hK _ ?_); clear hK K q0 q1 q2 q3 q4 q5 q6
      have CN := Lib.hid (HC.out W Hm1.out Hd1.out)
      generalize hcn : s.cost now = cn at *
      have Hcn := Lib.hid hcn
      clear hcn
      refine Dr.plan_e rfl (by rfl) (fun K hK => ?_)
      go_wp2_with fail
      refine CN.out.mono ?_; rintro e w1 ⟨rfl, hb2⟩
      refine hK _ _ (.of hb2) ?_; clear hK K CN HC
      have CB := Lib.hid (HB.out w1 (Hm1.out.ext hb2) (Hcb.out.ext hb2))
      generalize hcb' : s.cost b = cbb at *
      have Hcb' := Lib.hid hcb'
      clear hcb' HB
      refine Dr.plan_e rfl (by rfl) (fun K hK => ?_)
      go_wp2_with fail
      refine CB.out.mono ?_; rintro e w2 ⟨rfl, hb3⟩
      refine hK _ _ (.of hb3) ?_; clear hK K CB
      have hb23 := ext_trans hb2 hb3
      have hb13 := ext_trans hb1 hb23
      have hd3 := Hd1.out.ext hb23
      have Hcb3 := Lib.hid (Hcb.out.ext hb23)
      clear hb1 hb2 hb3 Hm1 Hd1 Hcb hS1 hb23
      refine Dr.plan_q (l := [_, _]) rfl (fun K hK => ?_)
      iterate 2 (go_big_quiet_step (fail))
      refine wpQuiet_nil (hK _ ?_); clear hK K
      refine Dr.plan_end rfl ?_
      by_cases hlt : cn < cbb
      · have HP2 : Hid (pick s.cost (some b) now = some now) := Lib.hid (by rw [HP.out, if_pos hlt])
        have ho := own_new w2 3 1 encI
        have hba := ext_alloc w2 (.cells #[] 3)
        have hd2 := hd3.ext hba
        go_wp2_with (at_builtin; refine app_ints 23 3 et23 rfl _ _ rfl w2.heap.size _ [] rfl ho A m c (toI now) Htl.out rfl hd2 (by simp; omega) (by simp) ?_; intro v' w' hown hb _ _)
        go_ret
        exact ⟨⟨_, rfl, by rw [HP2.out]; exact OptV.of_own (by simpa using hown) Hpos.out⟩, ext_trans hb13 (hba.trans hb)⟩
      · have HP2 : Hid (pick s.cost (some b) now = some b) := Lib.hid (by rw [HP.out, if_neg hlt])
        go_wp2
        go_ret
        exact ⟨⟨_, rfl, by rw [HP2.out]; exact ⟨a, cb, rfl, Hcb3.out⟩⟩, hb13⟩
  | succ k ih =>
    intro now o A m c v w h hk hm hn hd hv hg
    have n8 := hok.n8
    have hb0 := ext_alloc w (.cells (shC s p).toArray 26)
    have hS := Blk.new w 26 (shC s p)
    have h0 := h.ext hb0
    have hd0 := hd.ext hb0
    have hv0 := hv.ext hb0
    have Hm := Lib.hid hm
    have Hk := Lib.hid hk
    have hm12 : m + 1 ≤ 8 := by omega
    have hmn : ((m : Int) == (s.acts.length : Int)) = false := by simp; omega
    have Htl := Lib.hid (show (toI now).length = m from by rw [toI_len, hm])
    have HW := Lib.hid (fun i (hi : i < s.acts.length) A c W h hd => RWhy_any s p A (m + 1) c (now ++ [i]) m W h hok (fun x hx => by rcases List.mem_append.1 hx with h3 | h3; exact hn x h3; rw [List.mem_singleton] at h3; omega) (by rw [List.length_append, hm]; rfl) (by omega) (by omega) hd)
    have HI := Lib.hid (fun i (hi : i < s.acts.length) o A c v W h hd hv hg => ih (now ++ [i]) o A (m + 1) c v W h (by rw [List.length_append, List.length_singleton]; omega) (by rw [List.length_append, hm]; rfl) (fun x hx => by rcases List.mem_append.1 hx with h3 | h3; exact hn x h3; rw [List.mem_singleton] at h3; omega) hd hv hg)
    have HG := Lib.hid (fun i hi => Sh.upB_good (s := s) (k := k) (i := i) hg hn hk hi)
    have HU := Lib.hid (fun i => Sh.upB_succ (s := s) k now o i)
    have HZ := Lib.hid (show s.upB k now o 0 = o from rfl)
    have HE := Lib.hid (Sh.upB_end (s := s) k now o)
    have HCan := Lib.hid (fun i => Sh.can_at (s := s) now i)
    clear h hd hv hm hk ih hg hn
    unfold shV at *
    unfold shC at *
    go_enter Try.func49, Try.ntmps49
    go_upto_region 1 with fail
    change Blk (w.alloc (.cells #[.slice p.A s.acts.length p.cA, .slice p.R s.rest.length p.cR, .slice p.I s.ins.length p.cI, .slice p.O s.outs.length p.cO, .int .i64 s.cover, .int .i64 s.dull, .slice p.B s.before.length p.cB] 26)) _ _ _ at hS
    generalize w.alloc (.cells #[.slice p.A s.acts.length p.cA, .slice p.R s.rest.length p.cR, .slice p.I s.ins.length p.cI, .slice p.O s.outs.length p.cO, .int .i64 s.cover, .int .i64 s.dull, .slice p.B s.before.length p.cB] 26) = W0 at *
    have x0 : W0.cell? ⟨w.heap.size, 0, none⟩ = _ := hS.cell (i := 0) rfl
    go_upto_block 0 with fail
    clear x0
    go_wp2
    go_loopw [2, 7] (fun z t wr => ∃ i : Nat, t = .int .i64 i ∧ i ≤ s.acts.length ∧ OptV wr z (s.upB k now o i) ∧ Below W0.heap.size W0 wr) (fun _ t _ => s.acts.length - (intOf t).toNat)
    case atStart => exact ⟨0, rfl, by omega, by rw [HZ.out]; exact hv0, Below.refl _ _⟩
    case round =>
      obtain ⟨i, rfl, hi, hz, hbr⟩ := hrel
      have hSr := hS.ext hbr
      have hmr := h0.ext hbr
      have hdr := hd0.ext hbr
      have hbw := hb0.trans (hbr.mono hb0.size)
      have x0 : wr.cell? ⟨w.heap.size, 0, none⟩ = _ := hSr.cell (i := 0) rfl
      by_cases hlt : i < s.acts.length
      rotate_left
      · obtain rfl : i = s.acts.length := by omega
        have HO := Lib.hid hz
        clear hz
        go_wp2
        go_ret
        exact ⟨⟨_, rfl, by rw [← HE.out]; exact HO.out⟩, hbw⟩
      have hlt' : (i : Int) < (s.acts.length : Int) := by omega
      have hi0 : (0 : Int) ≤ (i : Int) := by omega
      have hnm : now.length = m := Hm.out
      have Hz := Lib.hid hz
      have Hu := Lib.hid (HU.out i)
      have Hc := Lib.hid (HCan.out i)
      have Hg := Lib.hid (HG.out i hi)
      generalize s.upB k now o i = oi at *
      clear hz HU HCan HZ
      go_upto_block 2 with fail
      clear x0
      go_wp2
      generalize wr = w4 at *
      go_loopw [8, 9] (fun b t wq => ∃ j : Nat, b = .bool ((now.take j).contains i) ∧ t = .int .i64 j ∧ j ≤ m ∧ wq = w4) (fun _ t _ => m - (intOf t).toNat)
      case atStart => exact ⟨0, by simp, rfl, by omega, rfl⟩
      case round =>
        obtain ⟨j, rfl, rfl, hj, rfl⟩ := hrel
        by_cases hltj : j < m
        · have hltj' : (j : Int) < (m : Int) := by omega
          have hj0 : (0 : Int) ≤ (j : Int) := by omega
          have hjk : j < now.length := by omega
          have Hstep := Lib.hid (Sh.contains_take hjk i)
          generalize (now.take j).contains i = T at *
          cases T
          · obtain ⟨bl2, ol2, hAl, -, cl2⟩ := hdr.at1 (k := j) (by rw [toI_len]; exact hjk) rfl
            rw [toI_get hjk] at cl2
            subst hAl
            generalize now[j] = kj at *
            have hbq : ((kj : Int) == (i : Int)) = (kj == i) := by rw [Bool.eq_iff_iff]; simp; omega
            have Hbq := Lib.hid hbq
            clear hbq hnm
            go_wp2
            go_roundw
            case rel => exact ⟨j + 1, by rw [Hstep.out, Bool.false_or, Hbq.out], by go_num, by omega, by first | rfl | trivial⟩
            case measure => simp [intOf]; omega
          · clear hnm
            go_wp2
            go_roundw
            case rel => exact ⟨j + 1, by rw [Hstep.out, Bool.true_or], by go_num, by omega, by first | rfl | trivial⟩
            case measure => simp [intOf]; omega
        · obtain rfl : j = m := by omega
          have htk : (now.take j).contains i = now.contains i := by rw [← hnm, List.take_length]
          rw [htk]
          clear htk hnm
          generalize now.contains i = used at *
          have ho := own_new wr 3 1 encI
          have hba := ext_alloc wr (.cells #[] 3)
          have hd2 := hdr.ext hba
          go_upto_region 13 with fail
          go_upto_region 14 with (first | (at_builtin; refine app_ints 23 3 et23 rfl _ _ rfl wr.heap.size _ [] rfl ho A j c (toI now) Htl.out rfl hd2 (by simp; omega) (by simp) ?_; intro v1 V1 hown1 hbv1 _ _; rw [List.nil_append] at hown1) | (at_builtin; refine app1 encI 23 3 1 8 et23 (by decide) (by decide) encI_len encI_one rfl _ _ rfl wr.heap.size _ (toI now) rfl (hown1.alloc _) V1.heap.size rfl (i : Int) (encI_cell ((Blk.new V1 3 [.int .i64 (i : Int)]).cell rfl)) (by rw [Htl.out]; omega) (by have := hbv1.size; have := hba.size; simp; omega) ?_; intro g' cap' V2 hown2 hb2 _ _; rw [← toI_snoc, Htl.out] at hown2))
          rw [Htl.out]
          have hbV := (hba.trans hbv1).trans (((ext_alloc V1 (.cells #[.int .i64 (i : Int)] 3)).mono (by have := hbv1.size; have := hba.size; simp at *; omega)).trans hb2)
          have hSV := hSr.ext hbV
          have hmV := hmr.ext hbV
          have Hz2 := Lib.hid (Hz.out.ext hbV)
          have hbw2 := hbr.trans (hbV.mono hbr.size)
          obtain ⟨A9, c9, e9, -, -, hc9⟩ := hown2.cells encI_len
          obtain ⟨rfl, rfl⟩ : A9 = some ⟨g', 0, none⟩ ∧ c9 = cap' := by injection e9 with h1 h2 h3; exact ⟨h1.symm, h3.symm⟩
          clear e9 hown2 hown1 hbv1 hb2 ho hba hd2 hbV hSr hmr hdr hbr hbw
          have CW := Lib.hid (HW.out i hlt (some ⟨g', 0, none⟩) c9 V2 hmV hc9)
          have hcan := Hc.out
          rw [Hm.out] at hcan
          have CI := Lib.hid (fun W (hW : Below V2.heap.size V2 W) => HI.out i hlt oi (some ⟨g', 0, none⟩) c9 u2 W (hmV.ext hW) (hc9.ext hW) (Hz2.out.ext hW) Hg.out)
          generalize s.whyAt (now ++ [i]) j = y' at *
          have Hcan := Lib.hid hcan
          clear hcan Hc HI HW hmV hc9
          cases used
          rotate_left
          · have hu : s.upB k now o (i + 1) = oi := by rw [Hu.out, if_neg]; rw [Hcan.out]; simp
            have HU2 := Lib.hid hu
            clear hu CW CI
            go_wp2
            go_roundw
            case rel => exact ⟨i + 1, by go_num, by omega, by rw [HU2.out]; exact Hz2.out, hbw2⟩
            case measure => simp [intOf]; omega
          have x0 : V2.cell? ⟨w.heap.size, 0, none⟩ = _ := hSV.cell (i := 0) rfl
          have x1 : V2.cell? ⟨w.heap.size, 1, none⟩ = _ := hSV.cell (i := 1) rfl
          have x2 : V2.cell? ⟨w.heap.size, 2, none⟩ = _ := hSV.cell (i := 2) rfl
          have x3 : V2.cell? ⟨w.heap.size, 3, none⟩ = _ := hSV.cell (i := 3) rfl
          have x4 : V2.cell? ⟨w.heap.size, 4, none⟩ = _ := hSV.cell (i := 4) rfl
          have x5 : V2.cell? ⟨w.heap.size, 5, none⟩ = _ := hSV.cell (i := 5) rfl
          have x6 : V2.cell? ⟨w.heap.size, 6, none⟩ = _ := hSV.cell (i := 6) rfl
          go_wp2_with fail
          refine CW.out.mono ?_; rintro e W5 ⟨rfl, hb5⟩
          have hS5 := hSV.ext hb5
          have Hz5 := Lib.hid (Hz2.out.ext hb5)
          have hbw5 := hbw2.trans (hb5.mono hbw2.size)
          have CI5 := Lib.hid (CI.out W5 hb5)
          clear x0 x1 x2 x3 x4 x5 x6 CW CI hSV hb5 Hz2 hbw2
          by_cases hy : y' = 0
          rotate_left
          · have hu : s.upB k now o (i + 1) = oi := by rw [Hu.out, if_neg]; rw [Hcan.out]; simp [hy]
            have HU2 := Lib.hid hu
            have hy2 : ((y' : Int) == 0) = false := by simp; omega
            clear hu CI5 hy
            go_wp2
            go_roundw
            case rel => exact ⟨i + 1, by go_num, by omega, by rw [HU2.out]; exact Hz5.out, hbw5⟩
            case measure => simp [intOf]; omega
          have hu : s.upB k now o (i + 1) = List.foldl (pick s.cost) oi (s.ext k (now ++ [i])) := by rw [Hu.out, if_pos]; rw [Hcan.out]; simp [hy]
          have HU2 := Lib.hid hu
          clear hu
          subst hy
          have x0 : W5.cell? ⟨w.heap.size, 0, none⟩ = _ := hS5.cell (i := 0) rfl
          have x1 : W5.cell? ⟨w.heap.size, 1, none⟩ = _ := hS5.cell (i := 1) rfl
          have x2 : W5.cell? ⟨w.heap.size, 2, none⟩ = _ := hS5.cell (i := 2) rfl
          have x3 : W5.cell? ⟨w.heap.size, 3, none⟩ = _ := hS5.cell (i := 3) rfl
          have x4 : W5.cell? ⟨w.heap.size, 4, none⟩ = _ := hS5.cell (i := 4) rfl
          have x5 : W5.cell? ⟨w.heap.size, 5, none⟩ = _ := hS5.cell (i := 5) rfl
          have x6 : W5.cell? ⟨w.heap.size, 6, none⟩ = _ := hS5.cell (i := 6) rfl
          go_wp2_with fail
          refine CI5.out.mono ?_; rintro e W6 ⟨⟨v6, rfl, hv6⟩, hb6⟩
          have Hv6 := Lib.hid hv6
          clear hv6
          go_wp2
          go_roundw
          case rel => exact ⟨i + 1, by go_num, by omega, by rw [HU2.out]; exact Hv6.out, hbw5.trans (hb6.mono hbw5.size)⟩
          case measure => simp [intOf]; omega
set_option maxRecDepth 100000 in
theorem RBest_any (s : Sh) (p : ShP) (w : World) (h : ShM w s p) (hok : s.Ok) :
    Calls Try.prog 19 #[shV s p] w fun e w' => (∃ v', e = .returned v' ∧ OptV w' v' s.solve) ∧ Below w.heap.size w w' := by
  have hb0 := ext_alloc w (.cells (shC s p).toArray 26)
  have hS := Blk.new w 26 (shC s p)
  have h0 := h.ext hb0
  have HR := Lib.hid (Sh.search_spec hok)
  have HC := Lib.hid (fun W hW => better_any s p hok s.acts.length [] none none 0 0 (.slice none 0 0) W hW (by simp) rfl (by simp) Cells.nil rfl Sh.GoodO.none)
  clear h hok
  unfold shV at *
  unfold shC at *
  go_enter Try.func19, Try.ntmps19
  go_upto_region 1 with fail
  change Blk (w.alloc (.cells #[.slice p.A s.acts.length p.cA, .slice p.R s.rest.length p.cR, .slice p.I s.ins.length p.cI, .slice p.O s.outs.length p.cO, .int .i64 s.cover, .int .i64 s.dull, .slice p.B s.before.length p.cB] 26)) _ _ _ at hS
  generalize w.alloc (.cells #[.slice p.A s.acts.length p.cA, .slice p.R s.rest.length p.cR, .slice p.I s.ins.length p.cI, .slice p.O s.outs.length p.cO, .int .i64 s.cover, .int .i64 s.dull, .slice p.B s.before.length p.cB] 26) = W0 at *
  have x0 : W0.cell? ⟨w.heap.size, 0, none⟩ = _ := hS.cell (i := 0) rfl
  have x1 : W0.cell? ⟨w.heap.size, 1, none⟩ = _ := hS.cell (i := 1) rfl
  have x2 : W0.cell? ⟨w.heap.size, 2, none⟩ = _ := hS.cell (i := 2) rfl
  have x3 : W0.cell? ⟨w.heap.size, 3, none⟩ = _ := hS.cell (i := 3) rfl
  have x4 : W0.cell? ⟨w.heap.size, 4, none⟩ = _ := hS.cell (i := 4) rfl
  have x5 : W0.cell? ⟨w.heap.size, 5, none⟩ = _ := hS.cell (i := 5) rfl
  have x6 : W0.cell? ⟨w.heap.size, 6, none⟩ = _ := hS.cell (i := 6) rfl
  go_wp2_with fail
  refine (HC.out W0 h0).mono ?_; rintro e W1 ⟨⟨v, rfl, hv⟩, hb1⟩
  rw [HR.out] at hv
  have Hv := Lib.hid hv
  clear hv
  go_wp2
  go_ret
  exact ⟨⟨_, rfl, Hv.out⟩, ext_trans hb0 hb1⟩
end Go.Proofs.Ytcnidhcdkbfpcaa
