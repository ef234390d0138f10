/- Walk: ProveBuy. -/
import Derived.Deep.DeepCutAuto
import Derived.Test.YtopfhinnamhoiaaRoadX
namespace Go.Proofs.Ytopfhinnamhoiaa
open Go.RowKit Go.Bs Go.Yd Go.Pl Go.Sort

structure ProofOk (r : Rd) (l : List Int) (cost : Int) (T : List Int) : Prop where
  rd : r.okB = true
  pl : PlanOk r l
  ct : spN r l l.length = cost
  tb : TabOk r T
  hd : cost ≤ tg T 0

set_option maxRecDepth 100000 in
set_option maxHeartbeats 2000000 in
theorem ProveBuy_any (r : Rd) (A : Option Addr) (n cap : Nat) (l : List Int) (B : Option Addr) (m mc : Nat) (cost : Int) (T : List Int) (V : Option Addr) (k kc : Nat) (w : World) (res : Bool) (hres : res = true ↔ ProofOk r l cost T) (hn : r.days.length = n) (hm1 : n ≤ 9223372036854775807) (hcap : n ≤ cap) (hl : l.length = m) (hm : m ≤ 40) (hT : T.length = k) (hk : k ≤ 40) (hd : RdAt w A r) (hv : Cells w B 1 encI l) (ht : Cells w V 1 encI T) :
    Calls Try.prog 60 #[.agg #[.slice A n cap, .int .i64 r.keep], .slice B m mc, .int .i64 cost, .slice V k kc] w fun e w' => e = .returned (.bool res) ∧ Below w.heap.size w w' := by
  have hb0 := ext_alloc w (.cells #[.slice A n cap, .int .i64 r.keep] 92)
  have hB := Blk.new w 92 [.slice A n cap, .int .i64 r.keep]
  have HS := Lib.hid (Spend_any r A n cap l B m mc _ hn hm1 hcap hl hm (hd.ext hb0) (hv.ext hb0))
  have hbad : ¬ ProofOk r l cost T → res = false := fun h => by
    cases hr : res
    · rfl
    · exact absurd (hres.1 hr) h
  have Bad := Lib.hid hbad
  have Hres := Lib.hid hres
  clear hbad hres
  cases hv0 : r.okB
  · have Hr := Lib.hid (Bad.out (fun h => by have := h.rd; rw [hv0] at this; cases this))
    rw [spendR_bad hv0 l] at HS
    clear hv0 hn hm hcap hd
    go_enter Try.func60, Try.ntmps60
    go_wp2_with fail
    refine HS.out.mono ?_; rintro e w1 ⟨rfl, hb1⟩
    go_wp2
    go_ret
    exact ⟨ret_congr (bool_congr Hr.out.symm), ext_trans hb0 hb1⟩
  · have hok := (Rd.okB_iff r).1 hv0
    have HP : ∃ p : Bool, (p = true ↔ PlanOk r l) := by classical exact ⟨decide (PlanOk r l), by simp⟩
    obtain ⟨p, hp⟩ := HP
    cases p
    · have hnp : ¬ PlanOk r l := fun h => by have := hp.2 h; cases this
      have Hr := Lib.hid (Bad.out (fun h => hnp h.pl))
      rw [spendR_no hv0 hnp] at HS
      clear hv0 hp hnp hn hm hcap hd
      go_enter Try.func60, Try.ntmps60
      go_wp2_with fail
      refine HS.out.mono ?_; rintro e w1 ⟨rfl, hb1⟩
      go_wp2
      go_ret
      exact ⟨ret_congr (bool_congr Hr.out.symm), ext_trans hb0 hb1⟩
    · have hpo := hp.1 rfl
      rw [spendR_ok hv0 hpo] at HS
      have Hok := Lib.hid hv0
      have Hpo := Lib.hid hpo
      clear hv0 hp hpo
      generalize hsp : spN r l l.length = sp at *
      have Hsp := Lib.hid hsp
      clear hsp
      by_cases hc : sp = cost
      · have Hc := Lib.hid (Hsp.out.trans hc)
        have HQ : ∃ q : Bool, (q = true ↔ TabOk r T) := by classical exact ⟨decide (TabOk r T), by simp⟩
        obtain ⟨q, hq⟩ := HQ
        have Hq := Lib.hid hq
        subst hc
        clear hq
        go_enter Try.func60, Try.ntmps60
        go_wp2_with fail
        change Blk (w.alloc (.cells #[.slice A n cap, .int .i64 r.keep] 92)) w.heap.size 92 [.slice A n cap, .int .i64 r.keep] at hB
        refine HS.out.mono ?_; rintro e w1 ⟨rfl, hb1⟩
        have hb2 := ext_trans hb0 hb1
        have hB2 := hB.ext hb1
        have x0 : w1.cell? ⟨w.heap.size, 0, none⟩ = _ := hB2.cell rfl
        have x1 : w1.cell? ⟨w.heap.size, 1, none⟩ = _ := hB2.cell rfl
        clear hb0 hb1 hB
        go_wp2_with fail
        refine (right_any r hok A n cap T V k kc w1 q Hq.out hn hcap hT hk (hd.ext hb2) (ht.ext hb2)).mono ?_; rintro e w2 ⟨rfl, hb3⟩
        have hb4 := ext_trans hb2 hb3
        cases q
        · have Hr := Lib.hid (Bad.out (fun h => by have := Hq.out.2 h.tb; cases this))
          go_wp2
          go_ret
          exact ⟨ret_congr (bool_congr Hr.out.symm), hb4⟩
        · have htb := Hq.out.1 rfl
          have hlen := htb.len
          obtain ⟨bt, ot, rfl, c0⟩ := tg_at (ht.ext hb4) (i := 0) (by omega)
          have hk0 : (0 : Int) < (k : Int) := by omega
          rw [Nat.add_zero] at c0
          have hg : sp ≤ tg T 0 → res = true := fun h => Hres.out.2 ⟨Hok.out, Hpo.out, Hc.out, htb, h⟩
          have hb : ¬ sp ≤ tg T 0 → res = false := fun h => Bad.out (fun h2 => h h2.hd)
          have Hg := Lib.hid hg
          have Hb := Lib.hid hb
          clear hg hb htb hlen x0 x1
          generalize tg T 0 = t0 at *
          by_cases hle : sp ≤ t0
          · have Hr := Lib.hid (Hg.out hle)
            go_wp2
            go_ret
            exact ⟨ret_congr (bool_congr (by rw [Hr.out]; first | done | simpa using hle)), hb4⟩
          · have Hr := Lib.hid (Hb.out hle)
            go_wp2
            go_ret
            exact ⟨ret_congr (bool_congr (by rw [Hr.out]; first | done | simpa using hle)), hb4⟩
      · have Hr := Lib.hid (Bad.out (fun h => hc (Hsp.out.symm.trans h.ct)))
        have hc' : (sp == cost) = false := by simpa using hc
        clear hn hm hcap hd
        go_enter Try.func60, Try.ntmps60
        go_wp2_with fail
        refine HS.out.mono ?_; rintro e w1 ⟨rfl, hb1⟩
        go_wp2
        go_ret
        exact ⟨ret_congr (bool_congr Hr.out.symm), ext_trans hb0 hb1⟩
end Go.Proofs.Ytopfhinnamhoiaa
