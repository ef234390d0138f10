/- Walk: ranked; fuel; Run. -/
import Derived.Deep.DeepCutAuto
import Derived.Test.YtopfhinnamhoiaaEngP
import Derived.Test.YtopfhinnamhoiaaSortW
import Derived.Test.YtopfhinnamhoiaaYardW
namespace Go.Proofs.Ytopfhinnamhoiaa
open Go.RowKit Go.Bs Go.Yd Go.Pl Go.Sort

theorem per_any (x : Eng) (w : World) : Calls Try.prog 123 #[Eng.val x] w fun e w' => e = .returned (.int .i64 x.per) ∧ Below w.heap.size w w' := by
  obtain ⟨a, b, c⟩ := x
  unfold Eng.val
  go_enter Try.func123, Try.ntmps123
  go_wp2
  go_ret
  exact ⟨rfl, ext_alloc _ _⟩

theorem own_blk {w : World} {base : Nat} {e : TypeId} {v : Value} {l : List Int} (h : OwnL w base e 1 encI v l) (hl : 0 < l.length) :
    ∃ g cap sp, v = .slice (some ⟨g, 0, none⟩) l.length cap ∧ base ≤ g ∧ l.length ≤ cap ∧ cap ≤ maxLen ∧ Blk w g e (l.map (Value.int .i64) ++ sp) := by
  rcases h.2 with ⟨_, hn⟩ | ⟨g, cap, cur, rfl, hb, hg, hnc, hcm, hcs, htake⟩
  · omega
  · refine ⟨g, cap, cur.toList.drop l.length, rfl, hb, hnc, hcm, ?_⟩
    have hfm : ∀ k : List Int, k.flatMap encI = k.map (Value.int .i64) := fun k => by induction k with | nil => rfl | cons y k ih => rw [List.flatMap_cons, ih]; rfl
    rw [Nat.mul_one, hfm] at htake
    unfold Blk
    rw [hg, ← htake, List.take_append_drop, Array.toArray_toList]
theorem blk_cells {w : World} {B T : Nat} {l : List Int} {sp : List Value} (h : Blk w B T (l.map (Value.int .i64) ++ sp)) : Cells w (some ⟨B, 0, none⟩) 1 encI l := fun i x hi => ⟨B, 0, rfl, fun j u hu => by
  have hil := (List.getElem?_eq_some_iff.1 hi).1
  rcases j with _ | j
  · simp [encI] at hu; subst hu
    have := h.cell (i := i) (v := .int .i64 x) (by rw [List.getElem?_append_left (by simpa using hil)]; simp [hi])
    simpa using this
  · simp [encI] at hu⟩
theorem cells_bel {α : Type} {w w' : World} {M : List Nat} {A : Option Addr} {sz : Nat} {enc : α → List Value} {l : List α} (h : Cells w A sz enc l) (hb : Dr.Bel M w w') (hA : ∀ k, A.map (·.block) = some k → k ∉ M) : Cells w' A sz enc l := by
  refine h.keep (fun p hp hq => ?_)
  rw [World.cell?_of_block (hb.block p.block hp (hA _ hq))]

set_option maxRecDepth 100000 in
set_option maxHeartbeats 1000000 in
theorem cmp_rank (l : List Eng) (A : Option Addr) (n cap : Nat) (B0 B1 : Nat) (M : List Nat) (w : World) (hn : l.length = n) (hd : Cells w A 3 Eng.enc l) (h0 : Blk w B0 108 [.slice A n cap]) (h1 : Blk w B1 174 [.func (.func 123) #[] #[]])
    (hM0 : B0 ∉ M) (hM1 : B1 ∉ M) (hA : ∀ k, A.map (·.block) = some k → k ∉ M) (hok : ∀ m ∈ l, m.ok) (S : List Int) (hS : ∀ x ∈ S, 0 ≤ x ∧ x < n) :
    CmpB 134 #[.pointer (some ⟨B1, 0, none⟩), .pointer (some ⟨B0, 0, none⟩)] (fun a b => (engs l a.toNat).per - (engs l b.toNat).per) w M S := by
  intro W x y hx hy hb
  have hx := hS x hx
  have hy := hS y hy
  have hdW := cells_bel hd hb hA
  have h0W : Blk W B0 108 [.slice A n cap] := (hb.block _ h0.lt hM0).trans h0
  have h1W : Blk W B1 174 [.func (.func 123) #[] #[]] := (hb.block _ h1.lt hM1).trans h1
  obtain ⟨i, rfl⟩ := Int.eq_ofNat_of_zero_le hx.1
  obtain ⟨j, rfl⟩ := Int.eq_ofNat_of_zero_le hy.1
  have hi : i < n := by omega
  have hj : j < n := by omega
  have hil : i < l.length := by omega
  have hjl : j < l.length := by omega
  simp only [Int.toNat_natCast]
  have ho1 := engs_get hil
  have ho2 := engs_get hjl
  have hk1 := (hok _ (List.getElem_mem hil)).2.2
  have hk2 := (hok _ (List.getElem_mem hjl)).2.2
  show Calls Try.prog 134 #[.int .i64 i, .int .i64 j, .pointer (some ⟨B1, 0, none⟩), .pointer (some ⟨B0, 0, none⟩)] W _
  obtain ⟨b, off, rfl, -, c0, c1, c2⟩ := hdW.at3 hil rfl
  obtain ⟨b', off', e', -, d0, d1, d2⟩ := hdW.at3 hjl rfl
  cases e'
  rw [ho1, ho2]
  have hi' : (i : Int) < (n : Int) := by omega
  have hj' : (j : Int) < (n : Int) := by omega
  have P1 := Lib.hid (fun W => per_any l[i] W)
  have P2 := Lib.hid (fun W => per_any l[j] W)
  generalize l[i] = x1 at *
  generalize l[j] = x2 at *
  obtain ⟨m1, i1, p1⟩ := x1
  obtain ⟨m2, i2, p2⟩ := x2
  simp only at c0 c1 c2 d0 d1 d2 hk1 hk2 ⊢
  clear ho1 ho2 hd h0 h1 hb
  go_enter Try.func134, Try.ntmps134
  go_upto_region 1 with fail
  refine Dr.wp_region_plan 14 [] (.q [0, 1, 2, 3, 4, 6, 7, 8, 9, 10] (.e1 5 (.e1 11 (.q [12, 13] .done)))) (by kernel_rfl) (by kernel_rfl) ?_
  have hb1 := ext_drew W
  have q0 := Dr.cell0 (cell_ext c0 hb1)
  have q1 := Dr.cell0 (cell_ext c1 hb1)
  have q2 := Dr.cell0 (cell_ext c2 hb1)
  have r0 := Dr.cell0 (cell_ext d0 hb1)
  have r1 := Dr.cell0 (cell_ext d1 hb1)
  have r2 := Dr.cell0 (cell_ext d2 hb1)
  have s0 := Dr.cell0 ((h0W.ext hb1).cell (i := 0) rfl)
  have s1 := Dr.cell0 ((h1W.ext hb1).cell (i := 0) rfl)
  clear c0 c1 c2 d0 d1 d2 h0W h1W hdW
  generalize World.drew _ = W1 at *
  refine Dr.plan_q (l := [_, _, _, _, _, _, _, _, _, _]) rfl (fun K hK => ?_)
  iterate 10 (go_big_quiet_step (fail))
  refine wpQuiet_nil (hK _ ?_); clear hK K
  clear q0 q1 q2 r0 r1 r2 s0 s1
  refine Dr.plan_e rfl (by rfl) (fun K hK => ?_)
  go_wp2_with fail
  refine (P1.out _).mono ?_; rintro e w1 ⟨rfl, hb2⟩
  refine hK _ _ (.of hb2) ?_; clear hK K
  refine Dr.plan_e rfl (by rfl) (fun K hK => ?_)
  go_wp2_with fail
  refine (P2.out _).mono ?_; rintro e w2 ⟨rfl, hb3⟩
  refine hK _ _ (.of hb3) ?_; clear hK K
  refine Dr.plan_q (l := [_, _]) rfl (fun K hK => ?_)
  iterate 2 (go_big_quiet_step (fail))
  refine wpQuiet_nil (hK _ ?_); clear hK K
  refine Dr.plan_end rfl ?_
  go_wp2
  go_ret
  exact ⟨rfl, ext_trans (ext_trans hb1 hb2) hb3⟩

set_option maxRecDepth 100000 in
set_option maxHeartbeats 1000000 in
theorem ranked_any (l : List Eng) (A : Option Addr) (n cap : Nat) (w : World) (hn : l.length = n) (h1 : 1 ≤ n) (h20 : n ≤ 20) (hd : Cells w A 3 Eng.enc l) (hok : ∀ m ∈ l, m.ok) :
    Calls Try.prog 122 #[.slice A n cap, .func (.func 123) #[] #[]] w fun e w' => ∃ v, e = .returned v ∧ FreshL w w' 1 encI v (rankL (fun i => (engs l i.toNat).per) n) ∧ Below w.heap.size w w' := by
  have hb0 := ext_trans (ext_alloc w (.cells #[.slice A n cap] 108)) (ext_alloc _ (.cells #[.func (.func 123) #[] #[]] 174))
  have hB0 := (Blk.new w 108 [.slice A n cap]).alloc (.cells #[.func (.func 123) #[] #[]] 174)
  have hB1 := Blk.new (w.alloc (.cells #[.slice A n cap] 108)) 174 [.func (.func 123) #[] #[]]
  rw [World.size_alloc] at hB1
  have hsz : ((w.alloc (.cells #[.slice A n cap] 108)).alloc (.cells #[.func (.func 123) #[] #[]] 174)).heap.size = w.heap.size + 2 := by simp
  have Hn := Lib.hid hn
  have Hsz := Lib.hid hsz
  clear hn hsz
  go_enter Try.func122, Try.ntmps122
  go_upto_region 1 with fail
  change Blk ((w.alloc (.cells #[.slice A n cap] 108)).alloc (.cells #[.func (.func 123) #[] #[]] 174)) w.heap.size 108 [.slice A n cap] at hB0
  change Blk ((w.alloc (.cells #[.slice A n cap] 108)).alloc (.cells #[.func (.func 123) #[] #[]] 174)) (w.heap.size + 1) 174 [.func (.func 123) #[] #[]] at hB1
  generalize (w.alloc (.cells #[.slice A n cap] 108)).alloc (.cells #[.func (.func 123) #[] #[]] 174) = W0 at *
  have x0 : W0.cell? ⟨w.heap.size, 0, none⟩ = _ := hB0.cell rfl
  go_wp2
  clear x0
  go_loopw [5, 9] (fun v x wr => ∃ k : Nat, x = .int .i64 k ∧ k ≤ n ∧ OwnL wr W0.heap.size 3 1 encI v (upto k) ∧ Below W0.heap.size W0 wr) (fun _ x _ => n - (intOf x).toNat)
  case atStart => exact ⟨0, rfl, by omega, OwnL.nil, Below.refl _ _⟩
  case round =>
    obtain ⟨k, rfl, hk, hown, hb⟩ := hrel
    by_cases hlt : k < n
    · have hlt' : (k : Int) < (n : Int) := by omega
      have hnew := Blk.new wr 3 [.int .i64 k]
      have hlen := upto_len k
      have hsz1 := hb.size
      go_wp2_with (at_builtin; refine app1 encI 24 3 1 8 et24 (by decide) (by decide) encI_len encI_one rfl _ _ rfl W0.heap.size _ (upto k) rfl (hown.alloc _) wr.heap.size rfl (k : Int) (encI_cell (hnew.cell rfl)) (by omega) (by simp; omega) ?_; intro g' cap' w' hown' hb3 _ _)
      rw [← upto_succ, hlen] at hown'
      go_roundw
      case rel => exact ⟨k + 1, by go_num, by omega, hown', (hb.alloc hsz1 _).trans hb3⟩
      case measure => simp [intOf]; omega
    · obtain rfl : k = n := by omega
      obtain ⟨g, cp, sp, rfl, hg, hcp, hcm, hblk⟩ := own_blk hown (by rw [upto_len]; omega)
      rw [upto_len] at hcp ⊢
      have hgn : w.heap.size + 2 ≤ g := by rw [← Hsz.out]; exact hg
      have hb2 := ext_trans hb0 hb
      have hc := cmp_rank l A k cap w.heap.size (w.heap.size + 1) [g] wr Hn.out (hd.ext hb2) (hB0.ext hb) (hB1.ext hb) (by simp; omega) (by simp; omega) (fun q hq => by
        have : q < w.heap.size := by
          cases A with
          | none => cases hq
          | some a =>
            simp at hq
            obtain ⟨b, off, e, hlt, -⟩ := hd.at3 (k := 0) (by rw [Hn.out]; omega) rfl
            cases e
            subst hq
            exact hlt
        simp; omega) hok (upto k) (fun x hx => mem_upto.1 hx)
      have HS := Lib.hid (stable_any 134 #[.pointer (some ⟨w.heap.size + 1, 0, none⟩), .pointer (some ⟨w.heap.size, 0, none⟩)] _ g 3 k cp (upto k) sp wr (enters_of Try.func134 (by kernel_rfl) rfl) (upto_len k) h20 hblk hc)
      clear hc hblk hown hd hB0 hB1
      go_wp2_with fail
      refine HS.out.mono ?_; rintro e w1 ⟨rfl, hbl, hblk⟩
      go_wp2
      go_ret
      refine ⟨.slice (some ⟨g, 0, none⟩) k cp, rfl, ⟨some ⟨g, 0, none⟩, cp, by rw [rank_len], by rw [rank_len]; exact hcp, hcm, blk_cells hblk, fun q hq => by simp at hq; subst hq; exact ⟨by omega, hblk.lt⟩⟩, ?_⟩
      exact ⟨hbl.os.trans hb2.os, hbl.tape.trans hb2.tape, hbl.output.trans hb2.output, Nat.le_trans hb2.size hbl.size, fun q hq => (hbl.block q (Nat.lt_of_lt_of_le hq hb2.size) (by simp; omega)).trans (hb2.block q hq)⟩
end Go.Proofs.Ytopfhinnamhoiaa
