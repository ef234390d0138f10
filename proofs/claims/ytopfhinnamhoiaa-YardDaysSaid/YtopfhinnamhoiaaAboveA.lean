/- Walk: above. -/
import Derived.Deep.DeepCutAuto
import Derived.Test.YtopfhinnamhoiaaPlanA
import Derived.Test.YtopfhinnamhoiaaGridC
namespace Go.Proofs.Ytopfhinnamhoiaa
open Go.RowKit Go.Bs Go.Yd Go.Pl Go.Sort

/-- the numbers below k at which f is above its limit -/
def overN (lim f : Nat → Int) (k : Nat) : List Nat := (List.range k).filter fun i => decide (lim i < f i)
theorem overN_succ (lim f : Nat → Int) (k : Nat) : overN lim f (k + 1) = if lim k < f k then overN lim f k ++ [k] else overN lim f k := by
  unfold overN
  rw [List.range_succ, List.filter_append]
  split <;> rename_i h <;> simp [h]
theorem overN_len (lim f : Nat → Int) (k : Nat) : (overN lim f k).length ≤ k := by
  unfold overN
  have := List.length_filter_le (fun i => decide (lim i < f i)) (List.range k)
  simpa using this
theorem natsI_len (l : List Nat) : (natsI l).length = l.length := by simp [natsI]
theorem natsI_snoc (l : List Nat) (k : Nat) : natsI l ++ [(k : Int)] = natsI (l ++ [k]) := by simp [natsI]

def TwoPost (w : World) (R : List Int × List Int) (e : Ending) (w' : World) : Prop :=
  ∃ v u, e = .returned (.tuple #[v, u]) ∧ FreshL w w' 1 encI v R.1 ∧ FreshL w w' 1 encI u R.2 ∧ Below w.heap.size w w'

theorem own_ne {w : World} {α : Type} {base : Nat} {e : TypeId} {sz : Nat} {enc : α → List Value} {v u : Value} {l : List α} {g : Nat} {n c : Nat} (hne : v.ownBlock = none ∨ u.ownBlock = none ∨ v.ownBlock ≠ u.ownBlock) (hu : OwnL w base e sz enc u l)
    (hat : v.ownBlock = some g ∨ g = w.heap.size) : (u.ownBlock = none ∨ u.ownBlock ≠ v.ownBlock) ∧ ((Value.slice (some ⟨g, 0, none⟩) n c).ownBlock = none ∨ u.ownBlock = none ∨ (Value.slice (some ⟨g, 0, none⟩) n c).ownBlock ≠ u.ownBlock) := by
  constructor
  · rcases hne with h | h | h
    · cases hu : u.ownBlock
      · exact .inl rfl
      · exact .inr (by rw [h]; simp)
    · exact .inl h
    · exact .inr (Ne.symm h)
  · cases hx : u.ownBlock with
    | none => exact .inr (.inl rfl)
    | some b =>
      refine .inr (.inr ?_)
      have hb := (hu.lt hx).2
      show some g ≠ some b
      rcases hat with h | h
      · rcases hne with h1 | h1 | h1
        · rw [h1] at h; cases h
        · rw [h1] at hx; cases hx
        · rw [← hx, ← h]; exact h1
      · intro e; cases e; omega

theorem app1_i {ops : Array Oper} {rest : List Oper} {o : Oper} {a : Act} {Q : Exit → Act → World → Prop} {w : World} (hgd : o.guard = none) (s x : Operand)
    (ho : o.op = .call { callee := .builtin .append, args := #[s, x], argTypes := #[24, 24] }) (base : Nat) (v : Value) (l : List Nat) (hs : a.eval s = v) (hown : OwnL w base 3 1 encI v (natsI l))
    (g : Nat) (hx : a.eval x = .slice (some ⟨g, 0, none⟩) 1 1) (y : Nat) (hc : w.cell? ⟨g, 0, none⟩ = some (.int .i64 (y : Int))) (hlen : l.length ≤ 1000000) (hbase : base ≤ w.heap.size)
    (h : ∀ g' cap w', OwnL w' base 3 1 encI (.slice (some ⟨g', 0, none⟩) (l.length + 1) cap) (natsI (l ++ [y])) → Below base w w' → w.grownBy w' v.ownBlock → (v.ownBlock = some g' ∨ g' = w.heap.size) → wpList Try.prog ops Q rest (a.put o.dst (.slice (some ⟨g', 0, none⟩) (l.length + 1) cap)) w') :
    wpList Try.prog ops Q (o :: rest) a w := by
  refine app1 encI 24 3 1 8 et24 (by decide) (by decide) encI_len encI_one hgd s x ho base v (natsI l) hs hown g hx (y : Int) (encI_cell hc) (by rw [natsI_len]; exact hlen) hbase ?_
  intro g' cap w' h1 h2 h3 h4
  rw [natsI_snoc, natsI_len] at h1
  rw [natsI_len]
  exact h g' cap w' h1 h2 h3 h4

set_option maxRecDepth 100000 in
set_option maxHeartbeats 2000000 in
theorem above_any (f : Nat) (fs : Array Value) (lim lo hi : Nat → Int) (Bf n : Nat) (w : World) (eg : Enters Try.prog f) (hn : n ≤ 1000) (hd : IArr w Bf 73 (tab (2 * n) (il lo hi)))
    (hp : ∀ (w' : World) (i : Nat), i < n → Below w.heap.size w w' → Calls Try.prog f (fs.push (.int .i64 (i : Int))) w' fun e w'' => e = .returned (.int .i64 (lim i)) ∧ Below w'.heap.size w' w'') :
    Calls Try.prog 77 #[.slice (some ⟨Bf, 0, none⟩) n n, .func (.func f) fs #[]] w (TwoPost w (natsI (overN lim hi n), natsI (overN lim lo n))) := by
  unfold Enters at eg
  go_enter Try.func77, Try.ntmps77
  go_wp2
  go_loopw [4, 5, 10] (fun v u x wr => ∃ (k : Nat), x = .int .i64 k ∧ k ≤ n ∧ OwnL wr w.heap.size 3 1 encI v (natsI (overN lim hi k)) ∧ OwnL wr w.heap.size 3 1 encI u (natsI (overN lim lo k)) ∧ Hid (v.ownBlock = none ∨ u.ownBlock = none ∨ v.ownBlock ≠ u.ownBlock) ∧ Below w.heap.size w wr) (fun _ _ x _ => n - (intOf x).toNat)
  case atStart => exact ⟨0, rfl, by omega, OwnL.nil, OwnL.nil, Lib.hid (.inl rfl), Below.refl _ _⟩
  case round =>
    obtain ⟨k, rfl, hk, hv, hu, Hne, hb⟩ := hrel
    by_cases hlt : k < n
    · have hlt' : (k : Int) < n := by omega
      have hk0 : (0 : Int) ≤ k := by omega
      have d0 : wr.cell? ⟨Bf, k * 2, none⟩ = some (.int .i64 (lo k)) := (hd.ext hb).cell (by rw [tab_get _ (by omega), il_even])
      have d1 : wr.cell? ⟨Bf, k * 2 + 1, none⟩ = some (.int .i64 (hi k)) := (hd.ext hb).cell (by rw [tab_get _ (by omega), il_odd])
      have m0 := cell_lt d0
      go_upto_region 4 with fail
      have hv2 := hv.alloc (.cells #[.int .i64 (lo k), .int .i64 (hi k)] 73)
      have hu2 := hu.alloc (.cells #[.int .i64 (lo k), .int .i64 (hi k)] 73)
      have hb2 := ext_trans hb (ext_alloc wr (.cells #[.int .i64 (lo k), .int .i64 (hi k)] 73))
      have hr2 : Blk (wr.alloc (.cells #[.int .i64 (lo k), .int .i64 (hi k)] 73)) wr.heap.size 73 [.int .i64 (lo k), .int .i64 (hi k)] := Blk.new wr 73 [.int .i64 (lo k), .int .i64 (hi k)]
      have hlv := fun b hb => (hv.lt (k := b) hb).2
      have hlu := fun b hb => (hu.lt (k := b) hb).2
      clear hv hu hb d0 d1 m0
      generalize wr.alloc (.cells #[.int .i64 (lo k), .int .i64 (hi k)] 73) = W at *
      refine Dr.wp_region_plan 6 [] (.q [0, 1, 2, 3] (.e1 4 (.q [5] .done))) (by kernel_rfl) (by kernel_rfl) ?_
      have hv3 := hv2.ext (ext_drew W)
      have hu3 := hu2.ext (ext_drew W)
      have hb3 := hb2.drew
      have hr3 := hr2.ext (ext_drew W)
      clear hv2 hu2 hb2 hr2
      generalize W.drew = W2 at *
      have q0 := Dr.cell0 (hr3.cell (i := 1) rfl)
      refine Dr.plan_q (l := [_, _, _, _]) rfl (fun K hK => ?_)
      iterate 4 (go_big_quiet_step (fail))
      refine wpQuiet_nil (hK _ ?_); clear hK K
      refine Dr.plan_e rfl (by rfl) (fun K hK => ?_)
      go_wp2_with fail
      refine (hp _ k hlt hb3).mono ?_; rintro e w1 ⟨rfl, hb1⟩
      refine hK _ _ (.of hb1) ?_; clear hK K
      have hv4 := hv3.ext hb1
      have hu4 := hu3.ext hb1
      have hr4 := hr3.ext hb1
      have hb4 := ext_trans hb3 hb1
      clear hv3 hu3 hb3 hr3 q0 hb1
      refine Dr.plan_q (l := [_]) rfl (fun K hK => ?_)
      iterate 1 (go_big_quiet_step (fail))
      refine wpQuiet_nil (hK _ ?_); clear hK K
      refine Dr.plan_end rfl ?_
      go_upto_if 20 with fail
      have hs1 := overN_succ lim hi k
      have hl1 := overN_len lim hi k
      go_cut [4, 20] (fun v' _ W' => OwnL W' w.heap.size 3 1 encI v' (natsI (overN lim hi (k + 1))) ∧ OwnL W' w.heap.size 3 1 encI u5 (natsI (overN lim lo k)) ∧ Hid (v'.ownBlock = none ∨ u5.ownBlock = none ∨ v'.ownBlock ≠ u5.ownBlock) ∧ Blk W' wr.heap.size 73 [.int .i64 (lo k), .int .i64 (hi k)] ∧ Below w.heap.size w W')
      case first =>
        by_cases hq : lim k < hi k
        · rw [if_pos hq] at hs1
          have Hs1 := Lib.hid hs1
          clear hs1
          go_wp2_with (at_builtin; refine app1_i rfl _ _ rfl w.heap.size _ (overN lim hi k) rfl (hv4.alloc _) w1.heap.size rfl k (by simp) (by omega) (by simp; have := hb4.size; omega) ?_; intro g2 cap2 w2 hown hb5 hgr hat)
          have hx := own_ne (n := (overN lim hi k).length + 1) (c := cap2) Hne.out (hu4.alloc (.cells #[.int .i64 (k : Int)] 3)) hat
          have hr5 := hr4.alloc (.cells #[.int .i64 (k : Int)] 3)
          go_meet
          case rel => exact ⟨by rw [Hs1.out]; exact hown, (hu4.alloc _).kept hgr hx.1, Lib.hid hx.2, (hgr.block _ hr5.lt (fun e => by have := hlv _ e.symm; omega)).trans hr5, (hb4.alloc (by have := hb4.size; omega) _).trans hb5⟩
        · rw [if_neg hq] at hs1
          have Hs1 := Lib.hid hs1
          have hq' : hi k ≤ lim k := by omega
          clear hs1
          go_wp2
          go_meet
          case rel => exact ⟨by rw [Hs1.out]; exact hv4, hu4, Hne, hr4, hb4⟩
      case rest =>
        obtain ⟨hv5, hu5, Hne5, hr5, hb5⟩ := hcut
        clear hv4 hu4 hb4 hr4 hs1 hl1 Hne hlv
        go_upto_region 6 with fail
        refine Dr.wp_region_plan 6 [] (.q [0, 1, 2, 3] (.e1 4 (.q [5] .done))) (by kernel_rfl) (by kernel_rfl) ?_
        have hv3 := hv5.ext (ext_drew _)
        have hu3 := hu5.ext (ext_drew _)
        have hb3 := hb5.drew
        have hr3 := hr5.ext (ext_drew _)
        clear hv5 hu5 hb5 hr5
        generalize World.drew _ = W6 at *
        have q0 := Dr.cell0 (hr3.cell (i := 0) rfl)
        refine Dr.plan_q (l := [_, _, _, _]) rfl (fun K hK => ?_)
        iterate 4 (go_big_quiet_step (fail))
        refine wpQuiet_nil (hK _ ?_); clear hK K
        refine Dr.plan_e rfl (by rfl) (fun K hK => ?_)
        go_wp2_with fail
        refine (hp _ k hlt hb3).mono ?_; rintro e w3 ⟨rfl, hb1⟩
        refine hK _ _ (.of hb1) ?_; clear hK K
        have hv4 := hv3.ext hb1
        have hu4 := hu3.ext hb1
        have hb4 := ext_trans hb3 hb1
        clear hv3 hu3 hb3 hr3 q0 hb1
        refine Dr.plan_q (l := [_]) rfl (fun K hK => ?_)
        iterate 1 (go_big_quiet_step (fail))
        refine wpQuiet_nil (hK _ ?_); clear hK K
        refine Dr.plan_end rfl ?_
        have hs1 := overN_succ lim lo k
        have hl1 := overN_len lim lo k
        by_cases hq : lim k < lo k
        · rw [if_pos hq] at hs1
          have Hs1 := Lib.hid hs1
          clear hs1
          go_wp2_with (at_builtin; refine app1_i rfl _ _ rfl w.heap.size _ (overN lim lo k) rfl (hu4.alloc _) w3.heap.size rfl k (by simp) (by omega) (by simp; have := hb4.size; omega) ?_; intro g2 cap2 w4 hown hb5 hgr hat)
          have hne6 : u5.ownBlock = none ∨ u4.ownBlock = none ∨ u5.ownBlock ≠ u4.ownBlock := by
            rcases Hne5.out with h | h | h
            · exact .inr (.inl h)
            · exact .inl h
            · exact .inr (.inr (Ne.symm h))
          have hx := own_ne (n := (overN lim lo k).length + 1) (c := cap2) hne6 (hv4.alloc (.cells #[.int .i64 (k : Int)] 3)) hat
          have hy : u4.ownBlock = none ∨ (Value.slice (some ⟨g2, 0, none⟩) ((overN lim lo k).length + 1) cap2).ownBlock = none ∨ u4.ownBlock ≠ (Value.slice (some ⟨g2, 0, none⟩) ((overN lim lo k).length + 1) cap2).ownBlock := by
            rcases hx.2 with h | h | h
            · exact .inr (.inl h)
            · exact .inl h
            · exact .inr (.inr (Ne.symm h))
          refine ⟨⟨k + 1, by go_num, by omega, (hv4.alloc _).kept hgr hx.1, by rw [Hs1.out]; exact hown, Lib.hid hy, (hb4.alloc (by have := hb4.size; omega) _).trans hb5⟩, ?_⟩
          simp [intOf]; omega
        · rw [if_neg hq] at hs1
          have Hs1 := Lib.hid hs1
          have hq' : lo k ≤ lim k := by omega
          clear hs1
          go_wp2
          go_roundw
          case rel => exact ⟨k + 1, by go_num, by omega, hv4, by rw [Hs1.out]; exact hu4, Hne5, hb4⟩
          case measure => simp [intOf]; omega
    · obtain rfl : k = n := by omega
      go_wp2
      go_ret2
      exact ⟨_, _, rfl, FreshL.of_own hv encI_len (Nat.le_refl _), FreshL.of_own hu encI_len (Nat.le_refl _), hb⟩
end Go.Proofs.Ytopfhinnamhoiaa
