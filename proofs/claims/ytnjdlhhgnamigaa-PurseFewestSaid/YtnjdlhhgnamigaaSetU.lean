/- Contracts of weeks as the laws use them: the week for the program; Settle of any week. -/
import Derived.Test.YtnjdlhhgnamigaaSetF
import Derived.Test.YtnjdlhhgnamigaaSetG
namespace Go.Proofs.Ytnjdlhhgnamigaa
open Go.RowKit Go.Bs Go.Pu Go.Pl Go.Sort

theorem Week_put (wk : Wk) (A B : Option Addr) (n c m d : Nat) (w : World) (hn : wk.ctys.length = n) (hm : wk.ctrs.length = m) (h1 : n ≤ 1000) (h2 : m ≤ 1000) (hA : Cells w A 4 Cty.enc wk.ctys) (hB : Cells w B 3 Ctr.enc wk.ctrs) :
    Calls Try.prog 18 #[wkV A n c wk.premium B m d] w fun e w' => ∃ A' c' B' d', e = .returned (wkV A' n c' wk.premium B' m d') ∧ Cells w' A' 4 Cty.enc wk.ctys ∧ Cells w' B' 3 Ctr.enc wk.ctrs ∧
      (∀ k, A'.map (·.block) = some k → w.heap.size ≤ k) ∧ (∀ k, B'.map (·.block) = some k → w.heap.size ≤ k) ∧ Below w.heap.size w w' := by
  refine (Week_any wk A B n c m d w hn hm h1 h2 hA hB).mono ?_
  rintro e W1 ⟨v1, u1, rfl, ⟨A1, c1, rfl, -, -, f1, g1⟩, ⟨B1, d1, rfl, -, -, f2, g2⟩, hb1⟩
  rw [hn, hm]
  exact ⟨A1, c1, B1, d1, rfl, f1, f2, fun k hk => (g1 k hk).1, fun k hk => (g2 k hk).1, hb1⟩
theorem settle_any (wk : Wk) (A B : Option Addr) (n c m d : Nat) (w : World) (hn : wk.ctys.length = n) (hm : wk.ctrs.length = m) (h1 : n ≤ 1000000) (h2 : m ≤ 1000000) (hA : Cells w A 4 Cty.enc wk.ctys) (hB : Cells w B 3 Ctr.enc wk.ctrs) :
    Calls Try.prog 17 #[wkV A n c wk.premium B m d] w fun e w' => ∃ v, e = .returned (.tuple #[v, .int .i64 (settleR wk).2]) ∧ PayAt w' v (settleR wk).1 ∧ Below w.heap.size w w' := by
  cases hok : wk.okB
  · rw [show settleR wk = (Pay.zero, 1) by simp [settleR, hok]]
    refine (settle_bad wk A B n c m d w hn hm h1 h2 hA hB hok).mono ?_
    rintro e w1 ⟨rfl, hb⟩
    exact ⟨_, rfl, ⟨none, 0, none, 0, none, 0, none, 0, none, 0, rfl, Cells.nil, Cells.nil, Cells.nil, Cells.nil, Cells.nil⟩, hb⟩
  · rw [show settleR wk = (wk.settle, 0) by simp [settleR, hok]]
    refine (settle_ok wk A B n c m d w hn hm hA hB hok).mono ?_
    rintro e w1 ⟨v1, v2, v3, v4, v5, rfl, ⟨A1, c1, rfl, -, -, f1, -⟩, ⟨A2, c2, rfl, -, -, f2, -⟩, ⟨A3, c3, rfl, -, -, f3, -⟩, ⟨A4, c4, rfl, -, -, f4, -⟩, ⟨A5, c5, rfl, -, -, f5, -⟩, hb⟩
    exact ⟨_, rfl, ⟨A1, c1, A2, c2, A3, c3, A4, c4, A5, c5, rfl, f1, f2, f3, f4, f5⟩, hb⟩
theorem pay_small (wk : Wk) (hok : wk.okB = true) : Pay.small wk.settle := by
  have h := (wk.okB_iff).1 hok
  have h1 := h.n
  have h2 := h.m
  exact ⟨by show (wk.ctys.map _).length ≤ _; rw [List.length_map]; omega, by show (wk.ctys.map _).length ≤ _; rw [List.length_map]; omega,
    by show (tab _ _).length ≤ _; rw [tab_len]; omega, by show (tab _ _).length ≤ _; rw [tab_len]; omega, by show (tab _ _).length ≤ _; rw [tab_len]; omega⟩
theorem zero_small : Pay.small Pay.zero := ⟨by simp [Pay.zero], by simp [Pay.zero], by simp [Pay.zero], by simp [Pay.zero], by simp [Pay.zero]⟩
theorem zero_at (w : World) : PayAt w pzV Pay.zero := ⟨none, 0, none, 0, none, 0, none, 0, none, 0, rfl, Cells.nil, Cells.nil, Cells.nil, Cells.nil, Cells.nil⟩
end Go.Proofs.Ytnjdlhhgnamigaa
