/- Walk: Why. -/
import Derived.Test.YtopfhinnamhoiaaDaysA
namespace Go.Proofs.Ytopfhinnamhoiaa
open Go.RowKit Go.Bs Go.Yd Go.Pl Go.Sort

def wnd (l : List Int) (i j : Nat) : List Int := (l.take j).drop (i + 1 - 7)
theorem wnd_zero (l : List Int) (i : Nat) : wnd l i (i + 1 - 7) = [] := List.drop_of_length_le (by simp; omega)
theorem wnd_succ {l : List Int} {i j : Nat} (h1 : i + 1 - 7 ≤ j) (h2 : j < l.length) : wnd l i (j + 1) = wnd l i j ++ [l[j]] := by
  unfold wnd
  rw [List.take_succ_eq_append_getElem h2, List.drop_append_of_le_length (by simp; omega)]
theorem wnd_week {l : List Int} {i : Nat} (h : i < l.length) : weekL (l.take (i + 1)) = wnd l i (i + 1) := by
  unfold weekL wnd
  rw [show (l.take (i + 1)).length = i + 1 by simp; omega]
theorem wnd_sum {l : List Int} (hl : ∀ x ∈ l, 0 ≤ x ∧ x ≤ 1440) (i j : Nat) : 0 ≤ isum (wnd l i j) ∧ isum (wnd l i j) ≤ l.length * 1440 := by
  have hm : ∀ x ∈ wnd l i j, 0 ≤ x ∧ x ≤ 1440 := fun x hx => hl x (List.mem_of_mem_take (List.mem_of_mem_drop hx))
  have h1 := isum_nonneg (l := wnd l i j) (fun x hx => (hm x hx).1)
  have h2 := isum_le (l := wnd l i j) (m := 1440) (fun x hx => (hm x hx).2)
  have h3 : (wnd l i j).length ≤ l.length := by unfold wnd; simp; omega
  omega
theorem why_eq {l : List Int} {d k : Int} {i : Nat} (h : i < l.length) : whyI d k (l.take (i + 1)) = if d < l[i] then 1 else if k < isum (wnd l i (i + 1)) then 2 else if (decide (i < 6) || (wnd l i (i + 1)).contains 0) then 0 else 3 := by
  have hlen : (l.take (i + 1)).length = i + 1 := by simp; omega
  unfold whyI longB fullB restB
  rw [hlen, wnd_week h]
  have hg : (l.take (i + 1)).getD (i + 1 - 1) 0 = l[i] := by simp [h]
  rw [hg]
  simp only [decide_eq_true_eq]
  split
  · rfl
  · split
    · rfl
    · by_cases h6 : i < 6
      · simp [h6, show ¬ 7 ≤ i + 1 by omega]
      · rw [decide_eq_false h6, Bool.false_or, decide_eq_true (show 7 ≤ i + 1 by omega), Bool.true_and]
        cases (wnd l i (i + 1)).contains 0 <;> rfl

set_option maxRecDepth 100000 in
set_option maxHeartbeats 2000000 in
theorem Why_any (d k : Int) (A : Option Addr) (n c i : Nat) (l : List Int) (w : World) (hn : l.length = n) (hm : n ≤ 1000) (hi : i < n) (hl : ∀ x ∈ l, 0 ≤ x ∧ x ≤ 1440) (hd : Cells w A 1 encI l) :
    Calls Try.prog 22 #[.agg #[.int .i64 d, .int .i64 k], .slice A n c, .int .i64 i] w fun e w' => e = .returned (.int .u8 (whyI d k (l.take (i + 1)))) ∧ Below w.heap.size w w' := by
  have hk1 : i < l.length := by omega
  have hwhy := why_eq (d := d) (k := k) hk1
  generalize hres : whyI d k (l.take (i + 1)) = res at *
  clear hres
  have hin : (i : Int) < n := by omega
  have hi0 : (0 : Int) ≤ i := by omega
  have Hn := Lib.hid hn
  go_enter Try.func22, Try.ntmps22
  go_upto_region 1 with fail
  have hb0 := ext_alloc w (.cells #[.int .i64 d, .int .i64 k] 23)
  have hbx : Blk (w.alloc (.cells #[.int .i64 d, .int .i64 k] 23)) w.heap.size 23 [.int .i64 d, .int .i64 k] := Blk.new w 23 [.int .i64 d, .int .i64 k]
  generalize w.alloc (.cells #[.int .i64 d, .int .i64 k] 23) = W0 at *
  refine Dr.wp_region_plan 7 [] (.q [0, 1, 2, 3, 4, 5, 6] .done) (by kernel_rfl) (by kernel_rfl) ?_
  have hb1 := hb0.drew
  have hb2 := hbx.ext (ext_drew W0)
  clear hb0 hbx
  generalize World.drew _ = W at *
  obtain ⟨b1, o1, rfl, -, d1⟩ := (hd.ext hb1).at1 hk1 rfl
  generalize hx : l[i] = x at *
  have Hx := Lib.hid hx
  clear hx
  have q1 := Dr.cell0 d1
  have q2 := Dr.cell0 (hb2.cell (i := 0) rfl)
  refine Dr.plan_q (l := [_, _, _, _, _, _, _]) rfl (fun K hK => ?_)
  iterate 7 (go_big_quiet_step (fail))
  refine wpQuiet_nil (hK _ ?_); clear hK K
  refine Dr.plan_end rfl ?_
  clear q1 q2 d1
  by_cases hdx : d < x
  · rw [if_pos hdx] at hwhy
    have Hr := Lib.hid hwhy
    clear hwhy
    go_wp2
    go_ret
    exact ⟨ret_congr (int_congr Hr.out.symm), hb1⟩
  · rw [if_neg hdx] at hwhy
    have hdx' : x ≤ d := by omega
    have Hr := Lib.hid hwhy
    clear hwhy hdx
    go_upto_region 4 with fail
    go_cut [9] (fun z W' => z = .int .i64 ((i + 1 - 7 : Nat) : Int) ∧ W' = W)
    case first =>
      go_wp2
      all_goals go_meet
      all_goals exact ⟨int_congr (by omega), rfl⟩
    case rest =>
      obtain ⟨rfl, rfl⟩ := hcut
      go_wp2
      go_loopw [7, 8, 9] (fun a f x wr => ∃ (j : Nat) (s : Int) (q : Bool), x = .int .i64 j ∧ a = .int .i64 s ∧ f = .bool q ∧ (i + 1 - 7 ≤ j ∧ j ≤ i + 1) ∧ Hid (s = isum (wnd l i j)) ∧ Hid (q = (decide (i < 6) || (wnd l i j).contains 0)) ∧ Blk wr w.heap.size 23 [.int .i64 d, .int .i64 k] ∧ Below w.heap.size w wr) (fun _ _ x _ => i + 1 - (intOf x).toNat)
      case atStart => exact ⟨i + 1 - 7, 0, _, rfl, rfl, rfl, by omega, Lib.hid (by rw [wnd_zero]; rfl), Lib.hid (by rw [wnd_zero]; simp; omega), hb2, hb1⟩
      case round =>
        clear hb1 hb2
        obtain ⟨j, s, q, rfl, rfl, rfl, hj, Hs, Hq, hb2, hb1⟩ := hrel
        by_cases hlt : j ≤ i
        · have hlt' : (j : Int) ≤ i := by omega
          have hj0 : (0 : Int) ≤ j := by omega
          have hjn : (j : Int) < n := by omega
          have hjl : j < l.length := by rw [Hn.out]; omega
          obtain ⟨b3, o3, e3, -, d3⟩ := (hd.ext hb1).at1 hjl rfl
          cases e3
          have hsb := wnd_sum hl i j
          have hsc := wnd_sum hl i (j + 1)
          have hxb := hl _ (List.getElem_mem hjl)
          have hws := wnd_succ (l := l) (i := i) hj.1 hjl
          rw [← Hs.out] at hsb
          have Hws := Lib.hid hws
          have Hl := Lib.hid Hn.out
          rw [Hn.out] at hsb
          clear hws hsc
          generalize l[j] = y at *
          have hc0 : (wnd l i j ++ [y]).contains 0 = ((wnd l i j).contains 0 || (y == 0)) := by
            cases hyz : (y == 0)
            · have : y ≠ 0 := by simpa using hyz
              simp [Ne.symm this]
            · have : y = 0 := by simpa using hyz
              simp [this]
          have Hc0 := Lib.hid hc0
          clear hc0
          cases q
          · cases hy : (y == 0)
            · have Hy := Lib.hid hy
              clear hy
              go_wp2
              refine ⟨⟨j + 1, _, _, by go_num, rfl, rfl, by omega, Lib.hid (by rw [Hws.out, isum_append, ← Hs.out]; simp [isum]), Lib.hid (by rw [Hws.out, Hc0.out, ← Bool.or_assoc, ← Hq.out, Hy.out]; rfl), hb2, hb1⟩, ?_⟩
              simp [intOf]; omega
            · have Hy := Lib.hid hy
              clear hy
              go_wp2
              refine ⟨⟨j + 1, _, _, by go_num, rfl, rfl, by omega, Lib.hid (by rw [Hws.out, isum_append, ← Hs.out]; simp [isum]), Lib.hid (by rw [Hws.out, Hc0.out, ← Bool.or_assoc, ← Hq.out, Hy.out]; rfl), hb2, hb1⟩, ?_⟩
              simp [intOf]; omega
          · go_wp2
            refine ⟨⟨j + 1, _, _, by go_num, rfl, rfl, by omega, Lib.hid (by rw [Hws.out, isum_append, ← Hs.out]; simp [isum]), Lib.hid (by rw [Hws.out, Hc0.out, ← Bool.or_assoc, ← Hq.out]; rfl), hb2, hb1⟩, ?_⟩
            simp [intOf]; omega
        · obtain rfl : j = i + 1 := by omega
          have x1 := hb2.cell (i := 1) rfl
          have hr := Hr.out
          rw [← Hs.out, ← Hq.out] at hr
          clear Hr Hs Hq
          by_cases hks : k < s
          · rw [if_pos hks] at hr
            have HR := Lib.hid hr
            clear hr
            go_wp2
            go_ret
            exact ⟨ret_congr (int_congr HR.out.symm), hb1⟩
          · rw [if_neg hks] at hr
            have hks' : s ≤ k := by omega
            clear hks
            cases q
            · have HR := Lib.hid (show res = 3 by rw [hr]; rfl)
              clear hr
              go_wp2
              go_ret
              exact ⟨ret_congr (int_congr HR.out.symm), hb1⟩
            · have HR := Lib.hid (show res = 0 by rw [hr]; rfl)
              clear hr
              go_wp2
              go_ret
              exact ⟨ret_congr (int_congr HR.out.symm), hb1⟩
end Go.Proofs.Ytopfhinnamhoiaa
