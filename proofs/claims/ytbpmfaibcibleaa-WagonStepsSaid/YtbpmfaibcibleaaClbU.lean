/- Walk: Climb, of the document. -/
import Derived.Test.YtbpmfaibcibleaaClbS
import Derived.Test.YtbpmfaibcibleaaLhpD
namespace Go.Wg
open Go.RowKit Go.Bs Go.Pl
/-- where the search stands behind a climb -/
def AtC (ts : List Th) (now : List Int) (i : Nat) (need : Int) : Prop := (now = [] ∧ i = 0 ∧ need = -1) ∨ ∃ k : Nat, now.getLast? = some (k : Int) ∧ i = k + 1 ∧ k < ts.length ∧ need = (thAt ts (k : Int)).need
theorem atC_all {ts : List Th} {now : List Int} {i : Nat} {need : Int} (h : AtC ts now i need) (hc : Climbs ts now) : ∀ a ∈ now, a < (i : Int) ∧ (thAt ts a).need ≤ need := by
  rcases h with ⟨rfl, -, -⟩ | ⟨k, h1, rfl, -, rfl⟩
  · intro a ha; cases ha
  · obtain ⟨p, rfl⟩ : ∃ p, now = p ++ [(k : Int)] := by
      obtain ⟨p, hp⟩ := List.getLast?_eq_some_iff.1 h1
      exact ⟨p, hp⟩
    intro a ha
    rcases List.mem_append.1 ha with ha | ha
    · have h3 := (List.pairwise_append.1 hc).2.2 a ha _ (List.mem_singleton_self _)
      omega
    · rw [List.mem_singleton.1 ha]; omega
theorem climbB_snoc {ts : List Th} {now : List Int} {i k : Nat} {need : Int} (hok : ∀ t ∈ ts, t.Ok) (h : AtC ts now i need) (hc : climbB ts now = true) (hi : i ≤ k) (hk : k < ts.length) : climbB ts (now ++ [(k : Int)]) = decide (need < (thAt ts (k : Int)).need) := by
  obtain ⟨h1, h2⟩ := climbB_iff.1 hc
  have ha := atC_all h h2
  rw [Bool.eq_iff_iff, climbB_iff, decide_eq_true_eq]
  constructor
  · rintro ⟨-, h4⟩
    rcases h with ⟨-, -, rfl⟩ | ⟨q, h5, -, -, rfl⟩
    · rw [thAt_eq hk]
      have := (hok _ (List.getElem_mem hk)).need
      omega
    · obtain ⟨p, rfl⟩ := List.getLast?_eq_some_iff.1 h5
      exact ((List.pairwise_append.1 h4).2.2 (q : Int) (List.mem_append_right _ (List.mem_singleton_self _)) _ (List.mem_singleton_self _)).2
  · intro hn
    refine ⟨fun x hx => ?_, List.pairwise_append.2 ⟨h2, List.pairwise_singleton _ _, fun a ha' b hb => ?_⟩⟩
    · rcases List.mem_append.1 hx with hx | hx
      · exact h1 x hx
      · rw [List.mem_singleton.1 hx]; omega
    · rw [List.mem_singleton.1 hb]
      have := ha a ha'
      omega
theorem atC_snoc (ts : List Th) (now : List Int) (k : Nat) (hk : k < ts.length) : AtC ts (now ++ [(k : Int)]) (k + 1) (thAt ts (k : Int)).need := .inr ⟨k, by simp, rfl, hk, rfl⟩
theorem climb_len {ts : List Th} {now : List Int} (hc : climbB ts now = true) : now.length ≤ ts.length := by
  obtain ⟨h1, h2⟩ := climbB_iff.1 hc
  have key : ∀ (l : List Int) (n : Nat), (∀ x ∈ l, 0 ≤ x ∧ x < (n : Int)) → l.Pairwise (· < ·) → l.length ≤ n := by
    intro l
    induction l with
    | nil => intro n _ _; simp
    | cons a l ih =>
      intro n h p
      obtain ⟨p1, p2⟩ := List.pairwise_cons.1 p
      have ha := h a (by simp)
      have e := ih' l a n (fun x hx => ⟨p1 x hx, (h x (by simp [hx])).2⟩) p2 ha.2
      simp only [List.length_cons]; omega
  exact key now ts.length h1 (h2.imp fun h => h.1)
where
  ih' : ∀ (l : List Int) (a : Int) (n : Nat), (∀ x ∈ l, a < x ∧ x < (n : Int)) → l.Pairwise (· < ·) → a < n → (l.length : Int) ≤ n - 1 - a := by
    intro l
    induction l with
    | nil => intro a n _ _ h; simp; omega
    | cons b l ih =>
      intro a n h p hn
      obtain ⟨p1, p2⟩ := List.pairwise_cons.1 p
      have hb := h b (by simp)
      have := ih b n (fun x hx => ⟨p1 x hx, (h x (by simp [hx])).2⟩) p2 hb.2
      simp only [List.length_cons]; omega
theorem clmF_len (ts : List Th) (g : Nat → Int) (n : Nat) : ∀ f i need, (clmF ts g n f i need).length ≤ f
  | 0, _, _ => Nat.le_refl _
  | f + 1, i, need => by
    unfold clmF
    split
    · simp
    · simp only [List.length_cons]
      have := clmF_len ts g n f ((scanC ts g need i (n - i)).2.toNat + 1) (thAt ts (scanC ts g need i (n - i)).2).need
      omega
theorem clm_len' (ts : List Th) (g : Nat → Int) (i : Nat) (need : Int) : (clm ts g i need).length ≤ ts.length + 1 := clmF_len _ _ _ _ _ _
/-- a row to be read -/
def RowAt (W : World) (v : Value) (l : List Int) : Prop := ∃ A c, v = .slice A l.length c ∧ Cells W A 1 Go.Bs.encI l
theorem RowAt.ext {w w' : World} {v : Value} {l : List Int} (h : RowAt w v l) (hb : Below w.heap.size w w') : RowAt w' v l := by
  obtain ⟨A, c, h1, h2⟩ := h
  exact ⟨A, c, h1, h2.ext hb⟩
theorem rfold_len (ts : List Th) (now : List Int) (need : Int) (i : Nat) : ∀ m, (rfold ts (clmL ts) now need i m).length ≤ now.length + ts.length + 2
  | 0 => by show now.length ≤ _; omega
  | m + 1 => by
    have ih := rfold_len ts now need i m
    unfold rfold rstep
    split
    · split
      · unfold clmL
        have := clm_len' ts (lng ts) (i + m + 1) (thAt ts (i + m : Nat)).need
        simp only [List.length_append, List.length_cons, List.length_nil]
        omega
      · exact ih
    · exact ih
end Go.Wg
namespace Go.Proofs.Ytbpmfaibcibleaa
open Go.RowKit Go.Bs Go.Wg Go.Pl Go.Sort
/-- what the recursion does -/
def ClbIH (ts : List Th) (T : Option Addr) (m cT i n : Nat) (need : Int) (now : List Int) (w : World) : Prop :=
  ∀ (k : Nat), i ≤ k → k < m → ∀ (A' : Option Addr) (c' : Nat) (W : World), Below w.heap.size w W → need < (thAt ts k).need → Cells W A' 1 Go.Bs.encI (now ++ [(k : Int)]) →
    Calls Try.prog 45 #[.slice T m cT, .slice A' (n + 1) c'] W fun e w' => (∃ v, e = .returned v ∧ RowAt w' v (clmL ts (now ++ [(k : Int)]) (k + 1) (thAt ts k).need)) ∧ Below W.heap.size W w'
set_option maxRecDepth 100000 in
set_option maxHeartbeats 4000000 in
theorem climbR_step (ts : List Th) (T : Option Addr) (m cT : Nat) (hm : ts.length = m) (h14 : m ≤ 14) (hok : ∀ t ∈ ts, t.Ok) (i : Nat) (need : Int) (A : Option Addr) (n c : Nat) (now : List Int) (w : World) (him : i ≤ m) (hat : AtC ts now i need) (hc : climbB ts now = true) (ht : Cells w T 4 Th.enc ts) (hn : now.length = n) (hA : Cells w A 1 Go.Bs.encI now)
    (IH0 : ClbIH ts T m cT i n need now w) :
    Calls Try.prog 45 #[.slice T m cT, .slice A n c] w fun e w' => (∃ v, e = .returned v ∧ RowAt w' v (clmL ts now i need)) ∧ Below w.heap.size w w' := by
  have hn14 : n ≤ 14 := by have := climb_len hc; omega
  have Hm := Lib.hid hm
  have Hok := Lib.hid hok
  have Hat := Lib.hid hat
  have Hc := Lib.hid hc
  have Hn := Lib.hid hn
  have HT := Lib.hid ht
  have HA := Lib.hid hA
  have IH := Lib.hid IH0
  have Hfold := Lib.hid (show rfold ts (clmL ts) now need i (m - i) = clmL ts now i need by
    have := clmL_fold ts now i need (by omega)
    rw [hm] at this; exact this)
  generalize clmL ts now i need = Res at *
  have HI := Lib.hid hat
  unfold AtC at HI
  clear hm hok hat hc hn ht hA IH0
  go_enter Try.func45, Try.ntmps45
  go_upto_if 13 with fail
  go_cut [6] (fun x W => x = .int .i64 i ∧ W = w)
  case first =>
    rcases HI.out with ⟨h1, h2, -⟩ | ⟨k, h1, h2, hk, -⟩
    · have hn0 : n = 0 := by rw [← Hn.out, h1]; rfl
      subst hn0
      subst h2
      go_wp2
      go_meet
      case rel => exact ⟨rfl, rfl⟩
    · obtain ⟨p, hp⟩ := List.getLast?_eq_some_iff.1 h1
      have hl := Hn.out
      rw [hp] at hl
      simp only [List.length_append, List.length_cons, List.length_nil] at hl
      have hlt : p.length < now.length := by rw [hp]; simp
      obtain ⟨b, off, rfl, -, d0⟩ := HA.out.at1 hlt rfl
      have hg : now[p.length] = (k : Int) := by simp [hp]
      rw [hg] at d0
      have hpn : p.length = n - 1 := by omega
      have hn0 : (0 : Int) < (n : Int) := by omega
      have Hx := Lib.hid (show (i : Int) = (k : Int) + 1 by omega)
      obtain ⟨q, rfl⟩ : ∃ q, n = q + 1 := ⟨n - 1, by omega⟩
      have hpq : p.length = q := by omega
      rw [hpq] at d0
      have hk14 : (k : Int) < 14 := by have := Hm.out; omega
      have hw : wrap64 ((k : Int) + 1) = (k : Int) + 1 := by unfold wrap64; omega
      clear hp hg hlt hl hpn hpq h1 h2
      go_wp2
      go_meet
      case rel => exact ⟨by rw [Hx.out], rfl⟩
  case rest =>
    obtain ⟨rfl, rfl⟩ := hcut
    go_wp2
    go_loopw [5, 7, 8, 9] (fun b t _ _ wr => ∃ q k : Nat, i + q = k ∧ t = .int .i64 (k : Int) ∧ k ≤ m ∧ RowAt wr b (rfold ts (clmL ts) now need i q) ∧ Below wc.heap.size wc wr) (fun _ t _ _ _ => m - (intOf t).toNat)
    case atStart => exact ⟨0, i, rfl, rfl, him, ⟨A, c, by rw [show rfold ts (clmL ts) now need i 0 = now from rfl, Hn.out], HA.out⟩, Below.refl _ _⟩
    case round =>
      obtain ⟨q, k, hqk, rfl, hkm, hbest, hbr⟩ := hrel
      have Hqk := Lib.hid hqk
      clear hqk
      by_cases hlt : k < m
      · have hlt' : (k : Int) < (m : Int) := by omega
        have hkt : k < ts.length := by rw [Hm.out]; exact hlt
        have ho : OwnL wr wr.heap.size 3 1 Go.Bs.encI (.slice none 0 0) ([] : List Int) := OwnL.nil
        have hd2 := HA.out.ext hbr
        have hbl := rfold_len ts now need i q
        rw [Hn.out, Hm.out] at hbl
        have Hst := Lib.hid (show rfold ts (clmL ts) now need i (q + 1) = rstep ts (clmL ts) now need k (rfold ts (clmL ts) now need i q) by rw [← Hqk.out]; rfl)
        have Hqk2 := Lib.hid (show i + (q + 1) = k + 1 by have := Hqk.out; omega)
        obtain ⟨Ab, cb, rfl, hbc⟩ := hbest
        generalize rfold ts (clmL ts) now need i q = best at *
        go_upto_region 8 with fail
        go_upto_region 9 with (first | (at_builtin; refine app_ints 35 3 et35 rfl _ _ rfl wr.heap.size _ [] rfl ho A n c now Hn.out rfl hd2 (by simp; omega) (Nat.le_refl _) ?_; intro v1 V1 hown1 hbv1 _ _; rw [List.nil_append] at hown1) | (at_builtin; refine app1 Go.Bs.encI 35 3 1 8 et35 (by decide) (by decide) Go.Bs.encI_len Go.Bs.encI_one rfl _ _ rfl wr.heap.size _ now rfl (hown1.alloc _) V1.heap.size rfl (k : Int) (Go.Bs.encI_cell ((Blk.new V1 3 [.int .i64 (k : Int)]).cell rfl)) (by rw [Hn.out]; omega) (by have := hbv1.size; simp; omega) ?_; intro g' cap' V2 hown2 hb2 _ _; rw [Hn.out] at hown2))
        rw [Hn.out]
        have hbV : Below wr.heap.size wr V2 := hbv1.trans (((ext_alloc V1 (.cells #[.int .i64 (k : Int)] 3)).mono (by have := hbv1.size; simp at *; omega)).trans hb2)
        have hbw2 := hbr.trans (hbV.mono hbr.size)
        obtain ⟨A9, c9, e9, -, -, hc9⟩ := hown2.cells Go.Bs.encI_len
        obtain ⟨rfl, rfl⟩ : A9 = some ⟨g', 0, none⟩ ∧ c9 = cap' := by injection e9 with h1 h2 h3; exact ⟨h1.symm, h3.symm⟩
        have hbc2 := hbc.ext hbV
        clear e9 hown2 hown1 hbv1 hb2 ho hd2 hbV hbc hbr
        have CI := Lib.hid (IsClimb_any T m cT ts (some ⟨g', 0, none⟩) (n + 1) c9 (now ++ [(k : Int)]) V2 Hm.out (by omega) (HT.out.ext hbw2) (by simp [Hn.out]) (by omega) hc9)
        rw [climbB_snoc Hok.out Hat.out Hc.out (by have := Hqk.out; omega) hkt] at CI
        by_cases hne : need < (thAt ts k).need
        case neg =>
          have Hs := Lib.hid (show rfold ts (clmL ts) now need i (q + 1) = best by rw [Hst.out]; unfold rstep; rw [if_neg hne])
          rw [decide_eq_false hne] at CI
          clear hne Hst IH
          go_wp2_with fail
          refine CI.out.mono ?_; rintro e V3 ⟨rfl, hx3⟩
          have hbw3 := ext_trans hbw2 hx3
          have hbc3 := hbc2.ext hx3
          clear CI hx3
          go_wp2
          go_roundw
          case rel => exact ⟨q + 1, k + 1, Hqk2.out, by go_num, by omega, ⟨Ab, cb, by rw [Hs.out], by rw [Hs.out]; exact hbc3⟩, hbw3⟩
          case measure => simp [intOf]; omega
        case pos =>
        have CR := Lib.hid (fun V (hV : Below wc.heap.size wc V) (hc : Cells V (some ⟨g', 0, none⟩) 1 Go.Bs.encI (now ++ [(k : Int)])) => IH.out k (by have := Hqk.out; omega) hlt (some ⟨g', 0, none⟩) c9 V hV hne hc)
        have Hst2 := Lib.hid (show rfold ts (clmL ts) now need i (q + 1) = if befB (clmL ts (now ++ [(k : Int)]) (k + 1) (thAt ts k).need) best then clmL ts (now ++ [(k : Int)]) (k + 1) (thAt ts k).need else best by rw [Hst.out]; unfold rstep; rw [if_pos hne])
        have hxl : (clmL ts (now ++ [(k : Int)]) (k + 1) (thAt ts k).need).length ≤ 100 := by
          unfold clmL
          have := clm_len' ts (lng ts) (k + 1) (thAt ts k).need
          simp only [List.length_append, List.length_cons, List.length_nil, Hn.out]
          rw [Hm.out] at this
          omega
        rw [decide_eq_true hne] at CI
        clear hne Hst IH
        generalize clmL ts (now ++ [(k : Int)]) (k + 1) (thAt ts k).need = X at *
        go_wp2_with fail
        refine CI.out.mono ?_; rintro e V3 ⟨rfl, hx3⟩
        have hbw3 := ext_trans hbw2 hx3
        have hbc3 := hbc2.ext hx3
        have CR3 := Lib.hid (CR.out V3 hbw3 (hc9.ext hx3))
        clear CI hx3 CR hc9 hbc2 hbw2
        go_wp2_with fail
        refine CR3.out.mono ?_; rintro e V4 ⟨⟨v4, rfl, A4, c4, rfl, hX⟩, hx4⟩
        have hbw4 := ext_trans hbw3 hx4
        have hbc4 := hbc3.ext hx4
        clear CR3 hx4 hbc3 hbw3
        have CB := Lib.hid (before_any A4 Ab X.length best.length c4 cb X best V4 rfl rfl (by omega) (by omega) hX hbc4)
        generalize befB X best = bf at *
        go_wp2_with fail
        refine CB.out.mono ?_; rintro e V5 ⟨rfl, hx5⟩
        have hbw5 := ext_trans hbw4 hx5
        have hbc5 := hbc4.ext hx5
        have hX5 := hX.ext hx5
        clear CB hx5 hbc4 hbw4 hX
        cases bf
        · have Hs := Lib.hid (show rfold ts (clmL ts) now need i (q + 1) = best by rw [Hst2.out]; rfl)
          clear Hst2
          go_wp2
          go_roundw
          case rel => exact ⟨q + 1, k + 1, Hqk2.out, by go_num, by omega, ⟨Ab, cb, by rw [Hs.out], by rw [Hs.out]; exact hbc5⟩, hbw5⟩
          case measure => simp [intOf]; omega
        · have Hs := Lib.hid (show rfold ts (clmL ts) now need i (q + 1) = X by rw [Hst2.out]; rfl)
          clear Hst2
          go_wp2
          go_roundw
          case rel => exact ⟨q + 1, k + 1, Hqk2.out, by go_num, by omega, ⟨A4, c4, by rw [Hs.out], by rw [Hs.out]; exact hX5⟩, hbw5⟩
          case measure => simp [intOf]; omega
      · obtain rfl : k = m := by omega
        have Hs := Lib.hid (show rfold ts (clmL ts) now need i q = Res by
          rw [← Hfold.out, show k - i = q by have := Hqk.out; omega])
        rw [Hs.out] at hbest
        go_wp2
        go_ret
        exact ⟨⟨_, rfl, hbest⟩, hbr⟩
theorem ClimbR_any (ts : List Th) (T : Option Addr) (m cT : Nat) (hm : ts.length = m) (h14 : m ≤ 14) (hok : ∀ t ∈ ts, t.Ok) : ∀ (d i : Nat) (need : Int) (A : Option Addr) (n c : Nat) (now : List Int) (w : World), i + d = m → AtC ts now i need → climbB ts now = true → Cells w T 4 Th.enc ts → now.length = n → Cells w A 1 Go.Bs.encI now →
    Calls Try.prog 45 #[.slice T m cT, .slice A n c] w fun e w' => (∃ v, e = .returned v ∧ RowAt w' v (clmL ts now i need)) ∧ Below w.heap.size w w' := by
  intro d
  induction d using Nat.strongRecOn with
  | ind d ih =>
    intro i need A n c now w hd hat hc ht hn hA
    exact climbR_step ts T m cT hm h14 hok i need A n c now w (by omega) hat hc ht hn hA fun k hk hk2 A' c' W hW hq hA' =>
      ih (m - (k + 1)) (by omega) (k + 1) (thAt ts k).need A' (n + 1) c' (now ++ [(k : Int)]) W (by omega) (atC_snoc ts now k (by omega)) (by rw [climbB_snoc hok hat hc hk (by omega)]; exact decide_eq_true hq) (ht.ext hW) (by simp [hn]) hA'
end Go.Proofs.Ytbpmfaibcibleaa
