/- Walk: Engines, RightEngines, Set, Carries. -/
import Derived.Deep.DeepCutAuto
import Derived.Test.YtopfhinnamhoiaaEngC
namespace Go.Proofs.Ytopfhinnamhoiaa
open Go.RowKit Go.Bs Go.Yd Go.Pl Go.Sort

theorem eng_one (x : Eng) : ∀ u ∈ Eng.enc x, u.oneCell' = true := by
  intro u hu
  simp only [Eng.enc, List.mem_cons, List.not_mem_nil, or_false] at hu
  rcases hu with rfl | rfl | rfl <;> rfl
theorem et108 : ElemT Try.prog 108 121 3 24 := ElemT.mk (z := .agg #[.int .i64 0, .int .i64 0, .int .i64 0]) Try.underlying108 (by kernel_rfl) rfl

set_option maxRecDepth 100000 in
set_option maxHeartbeats 1000000 in
theorem Engines_any (l : List Eng) (A : Option Addr) (n cap : Nat) (w : World) (hn : l.length = n) (hm : n ≤ 1000) (hd : Cells w A 3 Eng.enc l) :
    Calls Try.prog 62 #[.slice A n cap] w fun e w' => ∃ v, e = .returned v ∧ FreshL w w' 3 Eng.enc v l ∧ Below w.heap.size w w' := by
  have Hn := Lib.hid hn
  go_enter Try.func62, Try.ntmps62
  go_wp2
  go_loopw [3, 4] (fun v x wr => ∃ k : Nat, x = .int .i64 k ∧ k ≤ n ∧ OwnL wr w.heap.size 121 3 Eng.enc v (l.take k) ∧ Below w.heap.size w wr) (fun _ x _ => n - (intOf x).toNat)
  case atStart => exact ⟨0, rfl, by omega, by simpa using OwnL.nil, Below.refl _ _⟩
  case round =>
    obtain ⟨k, rfl, hk, hown, hb⟩ := hrel
    by_cases hlt : k < n
    · have hlt' : (k : Int) < (n : Int) := by omega
      have hk0 : (0 : Int) ≤ (k : Int) := by omega
      have hkl : k < l.length := by omega
      obtain ⟨b, off, rfl, -, c0, c1, c2⟩ := (hd.ext hb).at3 hkl rfl
      have hgk : l.take (k + 1) = l.take k ++ [l[k]] := List.take_succ_eq_append_getElem hkl
      have hlk : (l.take k).length = k := by simp; omega
      go_upto_region 5 with fail
      refine Dr.wp_region_plan 18 [] (.q [0, 1, 2, 3, 4, 5, 6, 7, 8, 9, 10, 11, 12, 13, 14, 15, 16] (.e1 17 .done)) (by kernel_rfl) (by kernel_rfl) ?_
      have hb1 := hb.drew
      have hown1 := hown.drew
      have q0 := Dr.cell0 (cell_ext c0 (ext_drew _))
      have q1 := Dr.cell0 (cell_ext c1 (ext_drew _))
      have q2 := Dr.cell0 (cell_ext c2 (ext_drew _))
      have hsz := hb1.size
      clear hb hown c0 c1 c2
      generalize World.drew _ = W at *
      generalize l[k] = x at *
      obtain ⟨mx, ix, px⟩ := x
      simp only at q0 q1 q2
      refine Dr.plan_q (l := [_, _, _, _, _, _, _, _, _, _, _, _, _, _, _, _, _]) rfl (fun K hK => ?_)
      iterate 17 (go_big_quiet_step (fail))
      refine wpQuiet_nil (hK _ ?_); clear hK K
      refine Dr.plan_e rfl (by rfl) (fun K hK => ?_)
      go_wp2_with fail
      refine hK _ _ (.of (ext_alloc _ _)) ?_; clear hK K
      have hnew := Blk.new W 121 (Eng.enc ⟨mx, ix, px⟩)
      refine Dr.plan_done (tl := [_, _]) rfl ?_
      go_wp2_with (at_builtin; refine app1 Eng.enc 108 121 3 24 et108 (by decide) (by decide) (fun _ => rfl) eng_one rfl _ _ rfl w.heap.size _ (l.take k) rfl (hown1.alloc _) W.heap.size rfl ⟨mx, ix, px⟩ (fun j u hj => hnew.cell hj) (by omega) (by simp; omega) ?_; intro g' cap' w' hown' hb3 _ _)
      rw [← hgk, hlk] at hown'
      go_roundw
      case rel => exact ⟨k + 1, by go_num, by omega, hown', (hb1.alloc hsz _).trans hb3⟩
      case measure => simp [intOf]; omega
    · obtain rfl : k = n := by omega
      rw [List.take_of_length_le (by rw [Hn.out]; omega)] at hown
      go_wp2
      go_ret
      exact ⟨_, rfl, FreshL.of_own hown (fun _ => rfl) (Nat.le_refl _), hb⟩

set_option maxRecDepth 100000 in
set_option maxHeartbeats 2000000 in
theorem REng_any (l : List Eng) (A : Option Addr) (n cap : Nat) (w : World) (hn : l.length = n) (hm : n ≤ 9223372036854775807) (hd : Cells w A 3 Eng.enc l) :
    Calls Try.prog 63 #[.slice A n cap] w fun e w' => e = .returned (.bool (engOkB l)) ∧ w = w' := by
  have Hn := Lib.hid hn
  generalize hres : engOkB l = res
  have hbad : ¬ engOk l → res = false := fun h => by
    cases hr : res
    · rfl
    · exact absurd ((engOkB_iff l).1 (hres.trans hr)) h
  have hgood : engOk l → res = true := fun h => by rw [← hres]; exact (engOkB_iff l).2 h
  have Hbad := Lib.hid hbad
  have Hgood := Lib.hid hgood
  clear hres hbad hgood
  go_enter Try.func63, Try.ntmps63
  go_wp2
  go_loopw [3] (fun x wr => ∃ k : Nat, x = .int .i64 k ∧ k ≤ n ∧ Hid (∀ x ∈ l.take k, x.ok) ∧ w = wr) (fun x _ => n - (intOf x).toNat)
  case atStart => exact ⟨0, rfl, by omega, Lib.hid (by simp), rfl⟩
  case round =>
    obtain ⟨k, rfl, hk, Hk, rfl⟩ := hrel
    by_cases hlt : k < n
    · have hlt' : (k : Int) < (n : Int) := by omega
      have hk0 : (0 : Int) ≤ (k : Int) := by omega
      have hkl : k < l.length := by omega
      obtain ⟨b, off, rfl, -, c0, c1, c2⟩ := hd.at3 hkl rfl
      have hbad : ¬ (l[k]).ok → res = false := fun h => Hbad.out (fun hok => h (hok.2 _ (List.getElem_mem hkl)))
      have hgood : (l[k]).ok → ∀ x ∈ l.take (k + 1), x.ok := fun h x hx => by
        rw [List.take_succ_eq_append_getElem hkl] at hx
        rcases List.mem_append.1 hx with hx | hx
        · exact Hk.out x hx
        · simp at hx; rw [hx]; exact h
      have Bad := Lib.hid hbad
      have Good := Lib.hid hgood
      clear hbad hgood
      generalize l[k] = x at *
      obtain ⟨mx, ix, px⟩ := x
      simp only at c0 c1 c2
      by_cases e1 : 0 ≤ mx ∧ mx ≤ 10000000
      · have C1 := Lib.hid (In_t e1)
        by_cases e2 : 0 ≤ ix ∧ ix ≤ 100000
        · have C2 := Lib.hid (In_t e2)
          by_cases e3 : 0 ≤ px ∧ px ≤ 10000
          · have C3 := Lib.hid (In_t e3)
            have Hg := Lib.hid (Good.out ⟨e1, e2, e3⟩)
            clear e1 e2 e3
            go_wp2_with fail
            refine (C1.out _).mono ?_; rintro e w1 ⟨rfl, rfl⟩
            go_wp2_with fail
            refine (C2.out _).mono ?_; rintro e w1 ⟨rfl, rfl⟩
            go_wp2_with fail
            refine (C3.out _).mono ?_; rintro e w1 ⟨rfl, rfl⟩
            go_wp2
            go_roundw
            case rel => exact ⟨k + 1, by go_num, by omega, Hg, trivial⟩
            case measure => simp [intOf]; omega
          · have C3 := Lib.hid (In_f e3)
            have Hr := Lib.hid (Bad.out (fun h => e3 h.2.2))
            clear e1 e2 e3
            go_wp2_with fail
            refine (C1.out _).mono ?_; rintro e w1 ⟨rfl, rfl⟩
            go_wp2_with fail
            refine (C2.out _).mono ?_; rintro e w1 ⟨rfl, rfl⟩
            go_wp2_with fail
            refine (C3.out _).mono ?_; rintro e w1 ⟨rfl, rfl⟩
            go_wp2
            go_ret
            exact ⟨ret_congr (bool_congr Hr.out.symm), rfl⟩
        · have C2 := Lib.hid (In_f e2)
          have Hr := Lib.hid (Bad.out (fun h => e2 h.2.1))
          clear e1 e2
          go_wp2_with fail
          refine (C1.out _).mono ?_; rintro e w1 ⟨rfl, rfl⟩
          go_wp2_with fail
          refine (C2.out _).mono ?_; rintro e w1 ⟨rfl, rfl⟩
          go_wp2
          go_ret
          exact ⟨ret_congr (bool_congr Hr.out.symm), rfl⟩
      · have C1 := Lib.hid (In_f e1)
        have Hr := Lib.hid (Bad.out (fun h => e1 h.1))
        clear e1
        go_wp2_with fail
        refine (C1.out _).mono ?_; rintro e w1 ⟨rfl, rfl⟩
        go_wp2
        go_ret
        exact ⟨ret_congr (bool_congr Hr.out.symm), rfl⟩
    · obtain rfl : k = n := by omega
      have Hk2 := Lib.hid (show ∀ x ∈ l, x.ok from fun x hx => Hk.out x (by rw [List.take_of_length_le (by rw [Hn.out]; omega)]; exact hx))
      by_cases h1 : 1 ≤ k
      · have h1' : (1 : Int) ≤ (k : Int) := by omega
        have hr : res = decide ((k : Int) ≤ 6) := by
          by_cases h2 : (k : Int) ≤ 6
          · rw [decide_eq_true h2]; exact Hgood.out ⟨by rw [Hn.out]; omega, Hk2.out⟩
          · rw [decide_eq_false h2]; exact Hbad.out (fun h => by have := h.1; rw [Hn.out] at this; omega)
        have Hr := Lib.hid hr
        clear hr
        go_wp2
        go_ret
        exact ⟨ret_congr (bool_congr Hr.out.symm), rfl⟩
      · have h1' : (k : Int) < 1 := by omega
        have Hr := Lib.hid (Hbad.out (fun h => by have := h.1; rw [Hn.out] at this; omega))
        clear h1
        go_wp2
        go_ret
        exact ⟨ret_congr (bool_congr Hr.out.symm), rfl⟩

set_option maxRecDepth 100000 in
set_option maxHeartbeats 1000000 in
theorem Set_any (A : Option Addr) (n cap s : Nat) (w : World) (hm : n ≤ 62) (hs : s < 9223372036854775808) :
    Calls Try.prog 65 #[.slice A n cap, .int .i64 s] w fun e w' => ∃ v, e = .returned v ∧ FreshL w w' 1 encI v (natsI (setN n s)) ∧ Below w.heap.size w w' := by
  go_enter Try.func65, Try.ntmps65
  go_wp2
  go_loopw [5, 6] (fun v x wr => ∃ k : Nat, x = .int .i64 k ∧ k ≤ n ∧ OwnL wr w.heap.size 3 1 encI v (natsI ((List.range k).filter fun i => s.testBit i)) ∧ Below w.heap.size w wr) (fun _ x _ => n - (intOf x).toNat)
  case atStart => exact ⟨0, rfl, by omega, OwnL.nil, Below.refl _ _⟩
  case round =>
    obtain ⟨k, rfl, hk, hown, hb2⟩ := hrel
    by_cases hlt : k < n
    · have hlt' : (k : Int) < (n : Int) := by omega
      have hk0 : (0 : Int) ≤ (k : Int) := by omega
      have hsc := setN_succ s k
      have hlen : ((List.range k).filter fun i => s.testBit i).length ≤ k := by have := List.length_filter_le (fun i => s.testBit i) (List.range k); simpa using this
      go_upto_if 18 with fail
      rw [bit_and1 s k hs]
      generalize bits BinOp.and IntKind.i64 ((s : Int) / 2 ^ k) 1 = zb
      cases hbit : s.testBit k
      · have Hs := Lib.hid (show (List.range (k + 1)).filter (fun i => s.testBit i) = (List.range k).filter (fun i => s.testBit i) by rw [hsc, hbit]; rfl)
        clear hsc hbit
        go_wp2
        go_roundw
        case rel => exact ⟨k + 1, by go_num, by omega, by rw [Hs.out]; exact hown, hb2⟩
        case measure => simp [intOf]; omega
      · have Hs := Lib.hid (show (List.range (k + 1)).filter (fun i => s.testBit i) = (List.range k).filter (fun i => s.testBit i) ++ [k] by rw [hsc, hbit]; rfl)
        have hnew := Blk.new wr 3 [.int .i64 k]
        have hsz2 := hb2.size
        clear hsc hbit
        generalize (List.range k).filter (fun i => s.testBit i) = fl at *
        obtain ⟨q, hq⟩ : ∃ q, (natsI fl).length = q := ⟨_, rfl⟩
        have hq2 : q ≤ k := by rw [← hq, natsI_len]; exact hlen
        go_wp2_with (at_builtin; refine app1 encI 24 3 1 8 et24 (by decide) (by decide) encI_len encI_one rfl _ _ rfl w.heap.size _ (natsI fl) rfl (hown.alloc _) wr.heap.size rfl (k : Int) (encI_cell (hnew.cell rfl)) (by omega) (by simp; omega) ?_; intro g' cap' w' hown' hb3 _ _)
        rw [natsI_snoc, ← Hs.out, hq] at hown'
        go_roundw
        case rel => exact ⟨k + 1, by go_num, by omega, hown', (hb2.alloc hsz2 _).trans hb3⟩
        case measure => simp [intOf]; omega
    · obtain rfl : k = n := by omega
      go_wp2
      go_ret
      exact ⟨_, rfl, FreshL.of_own hown encI_len (Nat.le_refl _), hb2⟩

theorem natsI_at {S : List Nat} {i : Nat} (h : i < S.length) : ∃ h' : i < (natsI S).length, (natsI S)[i] = ((S[i] : Nat) : Int) := ⟨by rw [natsI_len]; exact h, by simp [natsI]⟩
def mostL (l : List Eng) (S : List Nat) : Int := isum (S.map fun i => (engs l i).most)
theorem mostL_bd {l : List Eng} (hok : engOk l) {S : List Nat} (hS : ∀ i ∈ S, i < l.length) : 0 ≤ mostL l S ∧ mostL l S ≤ S.length * 10000000 :=
  isum_map_bd _ _ _ (fun i hi => (engs_ok hok (hS i hi)).1)

set_option maxRecDepth 100000 in
set_option maxHeartbeats 1000000 in
theorem Carries_any (l : List Eng) (A : Option Addr) (n cap : Nat) (s : Nat) (V : Option Addr) (m cm : Nat) (load need : Int) (w : World) (hok : engOk l) (hn : l.length = n) (hm : (setN n s).length = m) (hnd : 0 ≤ need ∧ need ≤ 10000000) (hd : Cells w A 3 Eng.enc l) (hv : Cells w V 1 encI (natsI (setN n s))) :
    Calls Try.prog 67 #[.slice A n cap, .slice V m cm, .int .i64 load, .int .i64 need] w fun e w' => e = .returned (.bool (carryS l s load need)) ∧ w = w' := by
  have hlen := hok.1
  rw [hn] at hlen
  have hmn : m ≤ n := by rw [← hm]; have := List.length_filter_le (fun i => s.testBit i) (List.range n); simpa [setN] using this
  generalize hres : carryS l s load need = res
  have hci := carry_iff (l := l) (s := s) (load := load) (need := need)
  rw [hres, hn] at hci
  have hSlt : ∀ i ∈ setN n s, i < l.length := fun i hi => by rw [hn]; exact (mem_setN.1 hi).1
  have hmS : mostS l s = mostL l (setN n s) := by unfold mostS mostL; rw [hn]
  rw [hmS] at hci
  have hbdT : ∀ k, 0 ≤ mostL l ((setN n s).take k) ∧ mostL l ((setN n s).take k) ≤ 60000000 := fun k => by
    have h1 := mostL_bd hok (S := (setN n s).take k) (fun i hi => hSlt i (List.mem_of_mem_take hi))
    have h2 : ((setN n s).take k).length ≤ m := by rw [← hm, List.length_take]; omega
    omega
  have Hbd := Lib.hid hbdT
  have hfull : (setN n s).take m = setN n s := List.take_of_length_le (by omega)
  have Hci := Lib.hid hci
  have Hn := Lib.hid hn
  have Hm := Lib.hid hm
  have HSlt := Lib.hid hSlt
  have Hful := Lib.hid hfull
  generalize setN n s = S at *
  clear hres hci hmS hSlt hbdT hfull hn hm
  go_enter Try.func67, Try.ntmps67
  go_wp2
  go_loopw [9, 10] (fun t x wr => ∃ k : Nat, x = .int .i64 k ∧ k ≤ m ∧ t = .int .i64 (mostL l (S.take k)) ∧ w = wr) (fun _ x _ => m - (intOf x).toNat)
  case atStart => exact ⟨0, rfl, by omega, rfl, rfl⟩
  case round =>
    obtain ⟨k, rfl, hk, rfl, rfl⟩ := hrel
    have hbk := Hbd.out k
    by_cases hlt : k < m
    · have hlt' : (k : Int) < (m : Int) := by omega
      have hk0 : (0 : Int) ≤ (k : Int) := by omega
      have hkS : k < S.length := by rw [Hm.out]; exact hlt
      obtain ⟨hkI, hkv⟩ := natsI_at hkS
      obtain ⟨bv, ov, rfl, -, e0⟩ := hv.at1 hkI rfl
      rw [hkv] at e0
      have hil := HSlt.out S[k] (List.getElem_mem hkS)
      have hsuc : mostL l (S.take (k + 1)) = mostL l (S.take k) + (engs l S[k]).most := by unfold mostL; exact isum_map_take_succ _ _ _ hkS
      have Hsuc := Lib.hid hsuc
      have heo := engs_ok hok hil
      have heg := engs_get hil
      obtain ⟨b, off, rfl, -, c0, c1, c2⟩ := hd.at3 hil rfl
      rw [← heg] at c0 c1 c2
      have hin : ((S[k] : Nat) : Int) < (n : Int) := by rw [Hn.out] at hil; omega
      clear hsuc heg hil hkv
      generalize S[k] = i at *
      have hi0 : (0 : Int) ≤ (i : Int) := by omega
      generalize engs l i = x at *
      obtain ⟨mx, ix, px⟩ := x
      obtain ⟨hx1, -, -⟩ := heo
      simp only at c0 c1 c2 hx1
      generalize mostL l (S.take k) = mk at *
      go_wp2
      go_roundw
      case rel => exact ⟨k + 1, by go_num, by omega, int_congr Hsuc.out.symm, trivial⟩
      case measure => simp [intOf]; omega
    · obtain rfl : k = m := by omega
      rw [Hful.out] at hbk ⊢
      have HA := Lib.hid Hbd.out
      generalize hmo : mostL l S = mo at *
      go_wp2
      go_loopw [11] (fun x wr => ∃ j : Nat, x = .int .i64 j ∧ j ≤ k ∧ Hid (∀ i ∈ S.take j, need ≤ mo - (engs l i).most) ∧ w = wr) (fun x _ => k - (intOf x).toNat)
      case atStart => exact ⟨0, rfl, by omega, Lib.hid (by simp), rfl⟩
      case round =>
        obtain ⟨j, rfl, hj, Hj, rfl⟩ := hrel
        by_cases hlt2 : j < k
        · have hlt' : (j : Int) < (k : Int) := by omega
          have hk0 : (0 : Int) ≤ (j : Int) := by omega
          have hkS : j < S.length := by rw [Hm.out]; exact hlt2
          obtain ⟨hkI, hkv⟩ := natsI_at hkS
          obtain ⟨bv, ov, rfl, -, e0⟩ := hv.at1 hkI rfl
          rw [hkv] at e0
          have hil := HSlt.out S[j] (List.getElem_mem hkS)
          have heo := engs_ok hok hil
          have heg := engs_get hil
          obtain ⟨b, off, rfl, -, c0, c1, c2⟩ := hd.at3 hil rfl
          rw [← heg] at c0 c1 c2
          have hin : ((S[j] : Nat) : Int) < (n : Int) := by rw [Hn.out] at hil; omega
          have hbad : ¬ need ≤ mo - (engs l S[j]).most → res = false := fun h => by
            cases hr : res
            · rfl
            · exact absurd ((Hci.out.1 hr).2.2 _ (List.getElem_mem hkS)) h
          have hgood : need ≤ mo - (engs l S[j]).most → ∀ i ∈ S.take (j + 1), need ≤ mo - (engs l i).most := fun h i hi => by
            rw [List.take_succ_eq_append_getElem hkS] at hi
            rcases List.mem_append.1 hi with hi | hi
            · exact Hj.out i hi
            · simp at hi; rw [hi]; exact h
          have Bad := Lib.hid hbad
          have Good := Lib.hid hgood
          clear heg hil hkv hbad hgood
          generalize S[j] = i at *
          have hi0 : (0 : Int) ≤ (i : Int) := by omega
          generalize hx : engs l i = x at *
          obtain ⟨mx, ix, px⟩ := x
          obtain ⟨hx1, -, -⟩ := heo
          simp only at c0 c1 c2 hx1 Bad Good
          clear hx
          by_cases hle : need ≤ mo - mx
          · have Hg := Lib.hid (Good.out hle)
            go_wp2
            go_roundw
            case rel => exact ⟨j + 1, by go_num, by omega, Hg, trivial⟩
            case measure => simp [intOf]; omega
          · have Hr := Lib.hid (Bad.out hle)
            have hle' : mo - mx < need := by omega
            go_wp2
            go_ret
            exact ⟨ret_congr (bool_congr Hr.out.symm), rfl⟩
        · obtain rfl : j = k := by omega
          rw [Hful.out] at Hj
          by_cases h0 : 0 < j
          · have h0' : (0 : Int) < (j : Int) := by omega
            have hr : res = decide (load ≤ mo) := by
              by_cases h2 : load ≤ mo
              · rw [decide_eq_true h2]; exact Hci.out.2 ⟨fun e => by have := Hm.out; rw [e] at this; simp at this; omega, h2, Hj.out⟩
              · rw [decide_eq_false h2]
                cases hr : res
                · rfl
                · exact absurd (Hci.out.1 hr).2.1 h2
            have Hr := Lib.hid hr
            clear hr
            go_wp2
            go_ret
            exact ⟨ret_congr (bool_congr Hr.out.symm), rfl⟩
          · obtain rfl : j = 0 := by omega
            have Hr := Lib.hid (show res = false by
              cases hr : res
              · rfl
              · exact absurd (List.length_eq_zero_iff.1 Hm.out) (Hci.out.1 hr).1)
            go_wp2
            go_ret
            exact ⟨ret_congr (bool_congr Hr.out.symm), rfl⟩
end Go.Proofs.Ytopfhinnamhoiaa
