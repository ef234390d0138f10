/- Walk: the reference's Fuel, Run. -/
import Derived.Deep.DeepCutAuto
import Derived.Test.YtopfhinnamhoiaaEngQ
namespace Go.Proofs.Ytopfhinnamhoiaa
open Go.RowKit Go.Bs Go.Yd Go.Pl Go.Sort

/-- the best one so far, of those that are not used -/
def BestRel (l : List Eng) (S : List Nat) (u : Nat → Bool) (i : Nat) (b : Int) : Prop :=
  (b = -1 ∧ ∀ j, j < i → u j = true) ∨ ∃ k : Nat, b = k ∧ k < i ∧ u k = false ∧ ∀ j, j < i → u j = false → (engs l (S.getD k 0)).per < (engs l (S.getD j 0)).per ∨ ((engs l (S.getD k 0)).per = (engs l (S.getD j 0)).per ∧ k ≤ j)
def usedF (l : List Eng) (s : Nat) (t i : Nat) : Bool := decide ((setN l.length s).getD i 0 ∈ (rankS l s).take t)

set_option maxRecDepth 100000 in
set_option maxHeartbeats 4000000 in
theorem RFuel_any (l : List Eng) (A : Option Addr) (n cap : Nat) (s : Nat) (V : Option Addr) (m cm : Nat) (load : Int) (w : World) (hok : engOk l) (hn : l.length = n) (hm : (setN n s).length = m) (hl : 0 ≤ load ∧ load ≤ 10000000) (hd : Cells w A 3 Eng.enc l) (hv : Cells w V 1 encI (natsI (setN n s))) :
    Calls Try.prog 66 #[.slice A n cap, .slice V m cm, .int .i64 load] w fun e w' => e = .returned (.int .i64 (fuelS l s load).1) ∧ Below w.heap.size w w' := by
  have hlen := hok.1
  rw [hn] at hlen
  have hmn : m ≤ n := by rw [← hm]; have := List.length_filter_le (fun i => s.testBit i) (List.range n); simpa [setN] using this
  have hSlt : ∀ i ∈ setN n s, i < l.length := fun i hi => by rw [hn]; exact (mem_setN.1 hi).1
  have hbdT : ∀ k, 0 ≤ isum (((setN n s).take k).map fun i => (engs l i).idle) ∧ isum (((setN n s).take k).map fun i => (engs l i).idle) ≤ 600000 := fun k => by
    have h1 := isum_map_bd (fun i => (engs l i).idle) ((setN n s).take k) 100000 (fun i hi => (engs_ok hok (hSlt i (List.mem_of_mem_take hi))).2.1)
    have h2 : ((setN n s).take k).length ≤ m := by rw [← hm, List.length_take]; omega
    omega
  have hpm : (rankS l s).length = m := by rw [(rankS_perm l s).length_eq, hn, hm]
  have hid : isum ((setN n s).map fun i => (engs l i).idle) = idleS l s := by unfold idleS; rw [hn]
  have hfull : (setN n s).take m = setN n s := List.take_of_length_le (by omega)
  have hsort := setN_sorted n s
  have hnext : ∀ (t x : Nat), x ∈ setN n s → x ∉ (rankS l s).take t → (∀ y ∈ setN n s, y ∉ (rankS l s).take t → (engs l x).per < (engs l y).per ∨ ((engs l x).per = (engs l y).per ∧ x ≤ y)) → ∃ h : t < (rankS l s).length, (rankS l s)[t] = x := by
    rw [← hn]; exact fun t x => next_rank
  have htf : ∀ t, (∀ y ∈ setN n s, y ∈ (rankS l s).take t) → (rankS l s).length ≤ t := by
    rw [← hn]; exact fun t => take_full
  have huse : ∀ t i, usedF l s t i = decide ((setN n s).getD i 0 ∈ (rankS l s).take t) := fun t i => by unfold usedF; rw [hn]
  have Hbd := Lib.hid hbdT
  have Hn := Lib.hid hn
  have Hm := Lib.hid hm
  have HSlt := Lib.hid hSlt
  have Hful := Lib.hid hfull
  have Hidl := Lib.hid hid
  have Hpm := Lib.hid hpm
  have Hsort := Lib.hid hsort
  have Hnext := Lib.hid hnext
  have Htf := Lib.hid htf
  have Huse := Lib.hid huse
  clear hbdT hn hm hSlt hfull hid hpm hsort hnext htf huse
  generalize setN n s = S at *
  go_enter Try.func66, Try.ntmps66
  go_wp2
  go_loopw [7, 8] (fun t x wr => ∃ k : Nat, x = .int .i64 k ∧ k ≤ m ∧ t = .int .i64 (1000 * isum ((S.take k).map fun i => (engs l i).idle)) ∧ w = wr) (fun _ x _ => m - (intOf x).toNat)
  case atStart => exact ⟨0, rfl, by omega, rfl, rfl⟩
  case round =>
    obtain ⟨k, rfl, hk, rfl, rfl⟩ := hrel
    have hbk := Hbd.out k
    by_cases hlt : k < m
    · have hlt' : (k : Int) < (m : Int) := by omega
      have hk0 : (0 : Int) ≤ (k : Int) := by omega
      have hkS : k < S.length := by rw [Hm.out]; exact hlt
      obtain ⟨hkI, hkv⟩ := natsI_at hkS
      obtain ⟨bv, ov, rfl, -, e0⟩ := hv.at1 hkI rfl
      rw [hkv] at e0
      have hil := HSlt.out S[k] (List.getElem_mem hkS)
      have hsuc : isum ((S.take (k + 1)).map fun i => (engs l i).idle) = isum ((S.take k).map fun i => (engs l i).idle) + (engs l S[k]).idle := isum_map_take_succ _ _ _ hkS
      have Hsuc := Lib.hid hsuc
      have heo := engs_ok hok hil
      have heg := engs_get hil
      obtain ⟨b, off, rfl, -, c0, c1, c2⟩ := hd.at3 hil rfl
      rw [← heg] at c0 c1 c2
      have hin : ((S[k] : Nat) : Int) < (n : Int) := by rw [Hn.out] at hil; omega
      clear hsuc heg hil hkv
      generalize S[k] = i at *
      have hi0 : (0 : Int) ≤ (i : Int) := by omega
      generalize engs l i = x at *
      obtain ⟨mx, ix, px⟩ := x
      obtain ⟨-, hx1, -⟩ := heo
      simp only at c0 c1 c2 hx1
      generalize isum ((S.take k).map fun i => (engs l i).idle) = mk at *
      go_wp2
      go_roundw
      case rel => exact ⟨k + 1, by go_num, by omega, int_congr (by rw [Hsuc.out]; simp only; first | omega | (unfold wrap64; omega)), trivial⟩
      case measure => simp [intOf]; omega
    · obtain rfl : k = m := by omega
      rw [Hful.out, Hidl.out] at hbk ⊢
      have hm1 := mk134 k (by omega)
      go_upto_block 2 with fail
      have hb1 := ext_alloc w (.cells (tabB k fun _ => false).toArray 4)
      have hB1 := Blk.new w 4 (tabB k fun _ => false)
      have hu0 : (fun _ => false) = usedF l s 0 := by funext i; simp [usedF]
      rw [hu0] at hB1 hb1 ⊢
      clear hm1 hu0
      generalize w.alloc (.cells (tabB k (usedF l s 0)).toArray 4) = W1 at *
      have hft0 : fuelT l s load 0 = (1000 * idleS l s, load) := rfl
      have Hft0 := Lib.hid hft0
      clear hft0
      go_wp2
      go_loopg [2, 7] k (fun g ld su wr => ∃ t : Nat, t ≤ k ∧ k - t ≤ g ∧ ld = .int .i64 (fuelT l s load t).2 ∧ su = .int .i64 (fuelT l s load t).1 ∧ Blk wr w.heap.size 4 (tabB k (usedF l s t)) ∧ Below w.heap.size w wr)
      case atStart => exact ⟨0, by omega, by omega, rfl, rfl, hB1, hb1⟩
      case round =>
        clear hB1 hb1
        obtain ⟨t, ht, hg, rfl, rfl, hB, hb⟩ := hrel
        have hbd := fuelT_bd hok s hl t (by omega)
        by_cases hpos : 0 < (fuelT l s load t).2
        · go_wp2
          generalize wr = wx at *
          go_loopw [10, 11] (fun b x wr => ∃ (i : Nat) (bb : Int), x = .int .i64 i ∧ i ≤ k ∧ b = .int .i64 bb ∧ Hid (BestRel l S (usedF l s t) i bb) ∧ -1 ≤ bb ∧ bb < i ∧ Blk wr w.heap.size 4 (tabB k (usedF l s t)) ∧ Below w.heap.size w wr) (fun _ x _ => k - (intOf x).toNat)
          case atStart => exact ⟨0, -1, rfl, by omega, rfl, Lib.hid (.inl ⟨rfl, fun j h => by omega⟩), by omega, by omega, hB, hb⟩
          case round =>
            clear hB hb
            obtain ⟨i, bb, rfl, hik, rfl, HB, hbb1, hbb2, hB, hb⟩ := hrel
            by_cases hlt2 : i < k
            · have hlt2' : (i : Int) < (k : Int) := by omega
              have hi0 : (0 : Int) ≤ (i : Int) := by omega
              have hiS : i < S.length := by rw [Hm.out]; exact hlt2
              obtain ⟨hiI, hiv⟩ := natsI_at hiS
              obtain ⟨bv, ov, rfl, -, e0⟩ := (hv.ext hb).at1 hiI rfl
              rw [hiv] at e0
              have hil := HSlt.out S[i] (List.getElem_mem hiS)
              have hgi : S.getD i 0 = S[i] := by simp [hiS]
              have heg := engs_get hil
              obtain ⟨b, off, rfl, -, c0, c1, c2⟩ := (hd.ext hb).at3 hil rfl
              rw [← heg] at c0 c1 c2
              have hin : ((S[i] : Nat) : Int) < (n : Int) := by rw [Hn.out] at hil; omega
              have u0 := hB.cell (tabB_get (usedF l s t) hlt2)
              have Hgi := Lib.hid hgi
              clear heg hil hiv hgi c0 c1
              go_upto_region 12 with fail
              go_cut [68] (fun z W => ∃ q : Bool, z = .bool q ∧ Hid (BestRel l S (usedF l s t) (i + 1) (if q = true then (i : Int) else bb)) ∧ Blk W w.heap.size 4 (tabB k (usedF l s t)) ∧ Below w.heap.size w W)
              case first =>
                refine Dr.wp_region_plan 28 [] (.q [0, 1, 2, 3, 4, 5, 6, 7, 8, 9, 10, 11, 12, 13, 14, 15, 16, 17, 18, 19, 20, 21, 22, 23, 24, 25, 26, 27] .done) (by kernel_rfl) (by kernel_rfl) ?_
                have hb1 := hb.drew
                have hB1 := hB.drew
                have q0 := Dr.cell0 (cell_ext u0 (ext_drew _))
                cases hu : usedF l s t i
                · rw [hu] at q0
                  by_cases hneg : bb < 0
                  · obtain rfl : bb = -1 := by omega
                    have Hq : Hid (BestRel l S (usedF l s t) (i + 1) (i : Int)) := Lib.hid (by
                      rcases HB.out with ⟨-, h⟩ | ⟨k', h, -⟩
                      · refine .inr ⟨i, rfl, by omega, hu, fun j hj huj => ?_⟩
                        by_cases e : j = i
                        · subst e; exact .inr ⟨rfl, Nat.le_refl _⟩
                        · have := h j (by omega)
                          rw [this] at huj; cases huj
                      · omega)
                    clear hb hB u0 e0 c2 hu
                    generalize World.drew _ = W at *
                    refine Dr.plan_q (l := [_, _, _, _, _, _, _, _, _, _, _, _, _, _, _, _, _, _, _, _, _, _, _, _, _, _, _, _]) rfl (fun K hK => ?_)
                    iterate 28 (go_big_quiet_step (fail))
                    refine wpQuiet_nil (hK _ ?_); clear hK K
                    refine Dr.plan_end rfl ?_
                    go_wp2
                    go_meet
                    case rel => exact ⟨true, rfl, Hq, hB1, hb1⟩
                  · obtain ⟨kb, hkb⟩ := Int.eq_ofNat_of_zero_le (show 0 ≤ bb by omega)
                    subst hkb
                    have hkk : kb < k := by omega
                    have hkk' : (kb : Int) < (k : Int) := by omega
                    have hkS : kb < S.length := by rw [Hm.out]; exact hkk
                    obtain ⟨hkI, hkv⟩ := natsI_at hkS
                    obtain ⟨bv', ov', eA, -, f0⟩ := (hv.ext hb).at1 hkI rfl
                    cases eA
                    rw [hkv] at f0
                    have hkl := HSlt.out S[kb] (List.getElem_mem hkS)
                    have hgk : S.getD kb 0 = S[kb] := by simp [hkS]
                    have hek := engs_get hkl
                    obtain ⟨b', off', eA, -, -, -, d2⟩ := (hd.ext hb).at3 hkl rfl
                    cases eA
                    rw [← hek] at d2
                    have hkn : ((S[kb] : Nat) : Int) < (n : Int) := by rw [Hn.out] at hkl; omega
                    have q1 := Dr.cell0 (cell_ext e0 (ext_drew _))
                    have q2 := Dr.cell0 (cell_ext c2 (ext_drew _))
                    have q3 := Dr.cell0 (cell_ext f0 (ext_drew _))
                    have q4 := Dr.cell0 (cell_ext d2 (ext_drew _))
                    have Hq : Hid (BestRel l S (usedF l s t) (i + 1) (if decide ((engs l S[i]).per < (engs l S[kb]).per) = true then (i : Int) else kb)) := Lib.hid (by
                      rcases HB.out with ⟨h, -⟩ | ⟨k', h, h1, h2, h3⟩
                      · omega
                      · obtain rfl : k' = kb := by omega
                        rw [hgk] at h3
                        by_cases hlt : (engs l S[i]).per < (engs l S[k']).per
                        · rw [decide_eq_true hlt, if_pos rfl]
                          refine .inr ⟨i, rfl, by omega, hu, fun j hj huj => ?_⟩
                          rw [Hgi.out]
                          by_cases e : j = i
                          · subst e; rw [Hgi.out]; exact .inr ⟨rfl, Nat.le_refl _⟩
                          · have := h3 j (by omega) huj
                            omega
                        · rw [decide_eq_false hlt]
                          refine .inr ⟨k', rfl, by omega, h2, fun j hj huj => ?_⟩
                          rw [hgk]
                          by_cases e : j = i
                          · subst e; rw [Hgi.out]; omega
                          · exact h3 j (by omega) huj)
                    clear hb hB u0 e0 c2 f0 d2 hu hkv hek hkl hgk
                    have hs0 : (0 : Int) ≤ ((S[i] : Nat) : Int) := by omega
                    have hs1 : (0 : Int) ≤ ((S[kb] : Nat) : Int) := by omega
                    have hkb0 : (0 : Int) ≤ (kb : Int) := by omega
                    generalize (engs l S[i]).per = p1 at *
                    generalize (engs l S[kb]).per = p2 at *
                    generalize S[i] = si at *
                    generalize S[kb] = sk at *
                    generalize World.drew _ = W at *
                    refine Dr.plan_q (l := [_, _, _, _, _, _, _, _, _, _, _, _, _, _, _, _, _, _, _, _, _, _, _, _, _, _, _, _]) rfl (fun K hK => ?_)
                    iterate 28 (go_big_quiet_step (fail))
                    refine wpQuiet_nil (hK _ ?_); clear hK K
                    refine Dr.plan_end rfl ?_
                    go_wp2
                    go_meet
                    case rel => exact ⟨_, rfl, Hq, hB1, hb1⟩
                · rw [hu] at q0
                  have Hq : Hid (BestRel l S (usedF l s t) (i + 1) bb) := Lib.hid (by
                    rcases HB.out with ⟨h1, h⟩ | ⟨k', h, h1, h2, h3⟩
                    · refine .inl ⟨h1, fun j hj => ?_⟩
                      by_cases e : j = i
                      · subst e; exact hu
                      · exact h j (by omega)
                    · refine .inr ⟨k', h, by omega, h2, fun j hj huj => ?_⟩
                      by_cases e : j = i
                      · subst e; rw [hu] at huj; cases huj
                      · exact h3 j (by omega) huj)
                  clear hb hB u0 e0 c2 hu
                  generalize World.drew _ = W at *
                  refine Dr.plan_q (l := [_, _, _, _, _, _, _, _, _, _, _, _, _, _, _, _, _, _, _, _, _, _, _, _, _, _, _, _]) rfl (fun K hK => ?_)
                  iterate 28 (go_big_quiet_step (fail))
                  refine wpQuiet_nil (hK _ ?_); clear hK K
                  refine Dr.plan_end rfl ?_
                  go_wp2
                  go_meet
                  case rel => exact ⟨false, rfl, Hq, hB1, hb1⟩
              case rest =>
                obtain ⟨q, rfl, Hq, hB1, hb1⟩ := hcut
                clear hb hB u0 e0 c2
                cases q
                · go_wp2
                  go_roundw
                  case rel => exact ⟨i + 1, bb, by go_num, by omega, rfl, Hq, by omega, by omega, hB1, hb1⟩
                  case measure => simp [intOf]; omega
                · go_wp2
                  go_roundw
                  case rel => exact ⟨i + 1, i, by go_num, by omega, rfl, Hq, by omega, by omega, hB1, hb1⟩
                  case measure => simp [intOf]; omega
            · obtain rfl : i = k := by omega
              by_cases hneg : bb < 0
              · have hall : (rankS l s).length ≤ t := Htf.out t (fun y hy => by
                  rcases HB.out with ⟨-, h⟩ | ⟨k', h, -⟩
                  · obtain ⟨j, hj, rfl⟩ := List.mem_iff_getElem.1 hy
                    have h2 := h j (by rw [Hm.out] at hj; exact hj)
                    rw [Huse.out] at h2
                    have h3 := of_decide_eq_true h2
                    rwa [show S.getD j 0 = S[j] by simp [hj]] at h3
                  · omega)
                have Hf := Lib.hid (fuelT_end (l := l) hok (load := load) (.inr hall))
                clear hall
                go_wp2
                go_ret
                exact ⟨ret_congr (int_congr Hf.out), hb⟩
              · obtain ⟨kb, hkb⟩ := Int.eq_ofNat_of_zero_le (show 0 ≤ bb by omega)
                subst hkb
                have hkk : kb < i := by omega
                have hkk' : (kb : Int) < (i : Int) := by omega
                have hkS : kb < S.length := by rw [Hm.out]; exact hkk
                have hgk : S.getD kb 0 = S[kb] := by simp [hkS]
                have hnx : ∃ h : t < (rankS l s).length, (rankS l s)[t] = S[kb] := by
                  rcases HB.out with ⟨h, -⟩ | ⟨k', h, h1, h2, h3⟩
                  · omega
                  · obtain rfl : k' = kb := by omega
                    rw [Huse.out] at h2
                    rw [hgk] at h2 h3
                    refine Hnext.out t _ (List.getElem_mem hkS) (of_decide_eq_false h2) (fun y hy hu => ?_)
                    obtain ⟨j, hj, rfl⟩ := List.mem_iff_getElem.1 hy
                    have hgj : S.getD j 0 = S[j] := by simp [hj]
                    have h4 := h3 j (by rw [Hm.out] at hj; exact hj) (by rw [Huse.out, hgj]; exact decide_eq_false hu)
                    rw [hgj] at h4
                    rcases h4 with h4 | ⟨h4, h5⟩
                    · exact .inl h4
                    · refine .inr ⟨h4, ?_⟩
                      rcases Nat.lt_or_ge k' j with h6 | h6
                      · exact Nat.le_of_lt (List.pairwise_iff_getElem.1 Hsort.out k' j hkS hj h6)
                      · obtain rfl : j = k' := by omega
                        exact Nat.le_refl _
                obtain ⟨htP, hPt⟩ := hnx
                have htm : t < i := by have := Hpm.out; omega
                have hft := fuelT_succ (l := l) (s := s) (load := load) htP
                rw [hPt] at hft
                unfold burn0 at hft
                have hnd := Hsort.out
                have hus : tabB i (updB (usedF l s t) kb) = tabB i (usedF l s (t + 1)) := by
                  unfold tabB
                  refine List.map_congr_left (fun j hj => ?_)
                  have hj := List.mem_range.1 hj
                  have hjS : j < S.length := by rw [Hm.out]; exact hj
                  congr 1
                  rw [Huse.out]
                  unfold updB
                  rw [Huse.out, show S.getD j 0 = S[j] by simp [hjS], List.take_succ_eq_append_getElem htP, hPt]
                  by_cases e : j = kb
                  · subst e; simp
                  · rw [if_neg e]
                    have hne : S[j] ≠ S[kb] := fun h => by
                      rcases Nat.lt_or_ge j kb with h6 | h6
                      · have := List.pairwise_iff_getElem.1 hnd j kb hjS hkS h6; omega
                      · have := List.pairwise_iff_getElem.1 hnd kb j hkS hjS (by omega); omega
                    simp [hne]
                obtain ⟨hkI, hkv⟩ := natsI_at hkS
                obtain ⟨bv, ov, rfl, hbvl, e0⟩ := (hv.ext hb).at1 hkI rfl
                rw [hkv] at e0
                have hkl := HSlt.out S[kb] (List.getElem_mem hkS)
                have heo := engs_ok hok hkl
                have hek := engs_get hkl
                obtain ⟨b, off, rfl, hbl, c0, c1, c2⟩ := (hd.ext hb).at3 hkl rfl
                obtain ⟨bw, ow, eB, hbw, -⟩ := hv.at1 hkI rfl
                obtain ⟨bx, ox, eA, hbx, -⟩ := hd.at3 hkl rfl
                cases eA
                cases eB
                rw [← hek] at c0 c1 c2
                have hkn : ((S[kb] : Nat) : Int) < (n : Int) := by rw [Hn.out] at hkl; omega
                have u0 := hB.cell (tabB_get (usedF l s t) hkk)
                have uf := hB.free kb
                have hB1 := hB.set kb (.bool true)
                rw [tabB_set, hus] at hB1
                have hb1 : Below w.heap.size w (wr.setCell ⟨w.heap.size, kb, none⟩ (.bool true)) := hb.setCell (by simp) _
                have e1 : (wr.setCell ⟨w.heap.size, kb, none⟩ (.bool true)).cell? ⟨bv, ov + kb, none⟩ = some (.int .i64 ((S[kb] : Nat) : Int)) := by
                  rw [World.cell?_setCell_other _ _ _ _ (by simp; try omega)]; exact e0
                have g0 : (wr.setCell ⟨w.heap.size, kb, none⟩ (.bool true)).cell? ⟨b, off + S[kb] * 3, none⟩ = _ := (World.cell?_setCell_other _ _ _ _ (by simp; try omega)).trans c0
                have g2 : (wr.setCell ⟨w.heap.size, kb, none⟩ (.bool true)).cell? ⟨b, off + S[kb] * 3 + 2, none⟩ = _ := (World.cell?_setCell_other _ _ _ _ (by simp; try omega)).trans c2
                have Hft := Lib.hid hft
                clear hft hus hnd hPt hkv hek hkl hgk hB hb e0 c0 c1 c2 HB
                have hs0 : (0 : Int) ≤ ((S[kb] : Nat) : Int) := by omega
                have hkb0 : (0 : Int) ≤ (kb : Int) := by omega
                go_upto_region 17 with fail
                generalize wr.setCell ⟨w.heap.size, kb, none⟩ (.bool true) = W5 at *
                generalize hsk : S[kb] = sk at *
                generalize engs l sk = x at *
                obtain ⟨mx, ix, px⟩ := x
                obtain ⟨hx1, -, hx3⟩ := heo
                simp only at hx1 hx3 g0 g2
                generalize hfp : fuelT l s load t = fp at *
                obtain ⟨su, ld⟩ := fp
                simp only at hbd hpos Hft ⊢
                have hmul1 : 0 ≤ mx * px ∧ mx * px ≤ 100000000000 := by have := mul_bd hx1.1 hx1.2 hx3.1 hx3.2; omega
                have hmul2 : 0 ≤ ld * px ∧ ld * px ≤ 100000000000 := by have := mul_bd hbd.2.2.1 hbd.2.2.2 hx3.1 hx3.2; omega
                clear hfp hsk u0 uf
                by_cases hml : mx < ld
                · go_wp2
                  go_roundg (i - (t + 1))
                  case measure => omega
                  case rel => exact ⟨t + 1, by omega, Nat.le_refl _, int_congr (by rw [Hft.out, Int.min_eq_right (by omega)]), int_congr (by rw [Hft.out, Int.min_eq_right (by omega)]; first | done | rfl | (unfold wrap64; simp only; omega)), hB1, hb1⟩
                · go_wp2
                  go_roundg (i - (t + 1))
                  case measure => omega
                  case rel => exact ⟨t + 1, by omega, Nat.le_refl _, int_congr (by rw [Hft.out, Int.min_eq_left (by omega)]), int_congr (by rw [Hft.out, Int.min_eq_left (by omega)]; first | done | rfl | (unfold wrap64; simp only; omega)), hB1, hb1⟩
        · have h0 : (fuelT l s load t).2 = 0 := by omega
          have Hf := Lib.hid (fuelT_end (l := l) hok (.inl h0))
          go_wp2
          go_ret
          exact ⟨ret_congr (int_congr Hf.out), hb⟩

set_option maxRecDepth 100000 in
set_option maxHeartbeats 4000000 in
theorem RRun_any (l : List Eng) (A : Option Addr) (n cap : Nat) (load need : Int) (w : World) (hok : engOk l) (hn : l.length = n) (hl : 0 ≤ load ∧ load ≤ 10000000) (hnd : 0 ≤ need ∧ need ≤ 10000000) (hd : Cells w A 3 Eng.enc l) :
    Calls Try.prog 64 #[.slice A n cap, .int .i64 load, .int .i64 need] w fun e w' => e = .returned (.int .i64 (bestS l load need)) ∧ Below w.heap.size w w' := by
  have hlen := hok.1
  rw [hn] at hlen
  have h64 : 2 ^ n ≤ 64 := Nat.le_trans (Nat.pow_le_pow_right (by omega) hlen.2) (by decide)
  have h0n : 0 < 2 ^ n := Nat.pos_of_ne_zero (by simp)
  have hbs : bestS l load need = bestTo l load need (2 ^ n) := by unfold bestS; rw [hn]
  have hspec := bestTo_spec l load need (carry_zero l load need)
  have hpw : (2 : Int) ^ n = ((2 ^ n : Nat) : Int) := by norm_cast
  have hw : wrap64 ((2 : Int) ^ n) = ((2 ^ n : Nat) : Int) := by rw [hpw]; unfold wrap64; omega
  have Hbt : Hid (∀ m, bestTo l load need (m + 1) = if carryS l m load need = true ∧ (bestTo l load need m = 0 ∨ (fuelS l m load).1 < (fuelS l (bestTo l load need m) load).1) then m else bestTo l load need m) := Lib.hid (fun _ => rfl)
  have Hlt : Hid (∀ m, bestTo l load need m < max m 1) := Lib.hid (fun m => (hspec m).1)
  have HS := Lib.hid (fun (s : Nat) (W : World) (h : s < 64) => Set_any A n cap s W (by omega) (by omega))
  have HC := Lib.hid (fun (s m cm : Nat) (V : Option Addr) (W : World) h (hc : Cells W A 3 Eng.enc l) hv => Carries_any l A n cap s V m cm load need W hok hn h hnd hc hv)
  have HF := Lib.hid (fun (s m cm : Nat) (V : Option Addr) (W : World) h (hc : Cells W A 3 Eng.enc l) hv => RFuel_any l A n cap s V m cm load W hok hn h hl hc hv)
  have Hbs := Lib.hid hbs
  have Hw := Lib.hid hw
  have h10 : bestTo l load need 1 = 0 := by
    show (if carryS l 0 load need = true ∧ _ then 0 else bestTo l load need 0) = 0
    rw [carry_zero]; simp [bestTo]
  have H10 := Lib.hid h10
  clear hbs hspec hpw hw hn h10
  generalize hN : 2 ^ n = N at *
  have HN := Lib.hid hN
  clear hN
  go_enter Try.func64, Try.ntmps64
  go_wp2
  go_loopw [7, 8] (fun be x wr => ∃ m : Nat, x = .int .i64 m ∧ 1 ≤ m ∧ m ≤ N ∧ be = .int .i64 (bestTo l load need m) ∧ Below w.heap.size w wr) (fun _ x _ => N - (intOf x).toNat)
  case atStart => exact ⟨1, rfl, by omega, by omega, by rw [H10.out]; rfl, Below.refl _ _⟩
  case round =>
    obtain ⟨m, rfl, hm1, hm, rfl, hb⟩ := hrel
    have hw := Hw.out
    by_cases hlt : m < N
    · have hlt' : (m : Int) < (N : Int) := by omega
      go_upto_if 15 with fail
      rw [Hw.out]
      clear hw
      go_wp2_with fail
      refine (HS.out m wr (by omega)).mono ?_; rintro e w1 ⟨v1, rfl, hv1, hb1⟩
      obtain ⟨A1, c1, rfl, -, -, hC1, -⟩ := hv1
      rw [natsI_len]
      have hb2 := ext_trans hb hb1
      have HC1 := Lib.hid (HC.out m (setN n m).length c1 A1 w1 rfl (hd.ext hb2) hC1)
      have hnx := Hbt.out m
      have hbl := Hlt.out m
      generalize bestTo l load need m = b1 at *
      have Hnx := Lib.hid hnx
      clear hnx
      cases hcar : carryS l m load need
      · rw [hcar] at HC1
        have e1 := Lib.hid (show bestTo l load need (m + 1) = b1 by rw [Hnx.out, if_neg (fun h => by rw [hcar] at h; cases h.1)])
        clear hcar
        go_wp2_with fail
        refine HC1.out.mono ?_; rintro e w2 ⟨rfl, rfl⟩
        go_wp2
        go_roundw
        case rel => exact ⟨m + 1, by go_num, by omega, by omega, by rw [e1.out], hb2⟩
        case measure => simp [intOf]; omega
      · rw [hcar] at HC1
        by_cases hb0 : b1 = 0
        · subst hb0
          have e1 := Lib.hid (show bestTo l load need (m + 1) = m by rw [Hnx.out, if_pos ⟨hcar, .inl rfl⟩])
          clear hcar
          go_wp2_with fail
          refine HC1.out.mono ?_; rintro e w2 ⟨rfl, rfl⟩
          go_wp2
          go_roundw
          case rel => exact ⟨m + 1, by go_num, by omega, by omega, by rw [e1.out], hb2⟩
          case measure => simp [intOf]; omega
        · have hb0' : ((b1 : Int) == 0) = false := by simp; omega
          go_wp2_with fail
          refine HC1.out.mono ?_; rintro e w2 ⟨rfl, rfl⟩
          go_wp2_with fail
          refine (HF.out m (setN n m).length c1 A1 w1 rfl (hd.ext hb2) hC1).mono ?_; rintro e w3 ⟨rfl, hb3⟩
          have hb4 := ext_trans hb2 hb3
          go_wp2_with fail
          refine (HS.out b1 w3 (by omega)).mono ?_; rintro e w4 ⟨v4, rfl, hv4, hb5⟩
          obtain ⟨A4, c4, rfl, -, -, hC4, -⟩ := hv4
          rw [natsI_len]
          have hb6 := ext_trans hb4 hb5
          go_wp2_with fail
          refine (HF.out b1 (setN n b1).length c4 A4 w4 rfl (hd.ext hb6) hC4).mono ?_; rintro e w5 ⟨rfl, hb7⟩
          have hb8 := ext_trans hb6 hb7
          by_cases hlt2 : (fuelS l m load).1 < (fuelS l b1 load).1
          · have e1 := Lib.hid (show bestTo l load need (m + 1) = m by rw [Hnx.out, if_pos ⟨hcar, .inr hlt2⟩])
            clear hcar hb2 hb3 hb4 hb5 hb6 hb7 hC1 hC4 hb hb1
            generalize (fuelS l m load).1 = f1 at *
            generalize (fuelS l b1 load).1 = f2 at *
            go_wp2
            go_roundw
            case rel => exact ⟨m + 1, by go_num, by omega, by omega, by rw [e1.out], hb8⟩
            case measure => simp [intOf]; omega
          · have e1 := Lib.hid (show bestTo l load need (m + 1) = b1 by
              rw [Hnx.out, if_neg]
              rintro ⟨-, h | h⟩
              · exact hb0 h
              · exact hlt2 h)
            clear hcar hb2 hb3 hb4 hb5 hb6 hb7 hC1 hC4 hb hb1
            generalize (fuelS l m load).1 = f1 at *
            generalize (fuelS l b1 load).1 = f2 at *
            go_wp2
            go_roundw
            case rel => exact ⟨m + 1, by go_num, by omega, by omega, by rw [e1.out], hb8⟩
            case measure => simp [intOf]; omega
    · obtain rfl : m = N := by omega
      go_upto_if 15 with fail
      rw [Hw.out]
      clear hw
      go_wp2
      go_ret
      exact ⟨by rw [Hbs.out]; rfl, hb⟩
end Go.Proofs.Ytopfhinnamhoiaa
