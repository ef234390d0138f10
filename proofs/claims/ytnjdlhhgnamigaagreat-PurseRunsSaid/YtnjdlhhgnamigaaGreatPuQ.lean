/- Openers: weeks and contracts; any week through Settle. -/
import Derived.Test.YtnjdlhhgnamigaaGreatSetF
import Derived.Test.YtnjdlhhgnamigaaGreatSetG
import Derived.Test.YtnjdlhhgnamigaaGreatPuK
/- Contracts of weeks as the laws use them: the week for the program; Settle of any week. -/
namespace Go.Proofs.YtnjdlhhgnamigaaGreat
open Go.RowKit Go.Bs Go.Pu Go.Pl Go.Sort

theorem settle_any (wk : Wk) (A B : Option Addr) (n c m d : Nat) (w : World) (hn : wk.ctys.length = n) (hm : wk.ctrs.length = m) (h1 : n ≤ 1000000) (h2 : m ≤ 1000000) (hA : Cells w A 4 Cty.enc wk.ctys) (hB : Cells w B 3 Ctr.enc wk.ctrs) :
    Calls Tryz.prog 21 #[wkV A n c wk.premium B m d] w fun e w' => ∃ v, e = .returned (.tuple #[v, .int .i64 (settleR wk).2]) ∧ PayAt w' v (settleR wk).1 ∧ Below w.heap.size w w' := by
  cases hok : wk.okB
  · rw [show settleR wk = (Pay.zero, 1) by simp [settleR, hok]]
    refine (settle_bad wk A B n c m d w hn hm h1 h2 hA hB hok).mono ?_
    rintro e w1 ⟨rfl, hb⟩
    exact ⟨_, rfl, ⟨none, 0, none, 0, none, 0, none, 0, none, 0, rfl, Cells.nil, Cells.nil, Cells.nil, Cells.nil, Cells.nil⟩, hb⟩
  · rw [show settleR wk = (wk.settle, 0) by simp [settleR, hok]]
    refine (settle_ok wk A B n c m d w hn hm hA hB hok).mono ?_
    rintro e w1 ⟨v1, v2, v3, v4, v5, rfl, ⟨A1, c1, rfl, -, -, f1, -⟩, ⟨A2, c2, rfl, -, -, f2, -⟩, ⟨A3, c3, rfl, -, -, f3, -⟩, ⟨A4, c4, rfl, -, -, f4, -⟩, ⟨A5, c5, rfl, -, -, f5, -⟩, hb⟩
    exact ⟨_, rfl, ⟨A1, c1, A2, c2, A3, c3, A4, c4, A5, c5, rfl, f1, f2, f3, f4, f5⟩, hb⟩
theorem pay_small (wk : Wk) (hok : wk.okB = true) : Pay.small wk.settle := by
  have h := (wk.okB_iff).1 hok
  have h1 := h.n
  have h2 := h.m
  exact ⟨by show (wk.ctys.map _).length ≤ _; rw [List.length_map]; omega, by show (wk.ctys.map _).length ≤ _; rw [List.length_map]; omega,
    by show (tab _ _).length ≤ _; rw [tab_len]; omega, by show (tab _ _).length ≤ _; rw [tab_len]; omega, by show (tab _ _).length ≤ _; rw [tab_len]; omega⟩
theorem zero_small : Pay.small Pay.zero := ⟨by simp [Pay.zero], by simp [Pay.zero], by simp [Pay.zero], by simp [Pay.zero], by simp [Pay.zero]⟩
theorem zero_at (w : World) : PayAt w pzV Pay.zero := ⟨none, 0, none, 0, none, 0, none, 0, none, 0, rfl, Cells.nil, Cells.nil, Cells.nil, Cells.nil, Cells.nil⟩
end Go.Proofs.YtnjdlhhgnamigaaGreat

/- Arguments opened to data: weeks, contracts, tills, ledgers, acts, small numbers. -/
namespace Go.Proofs.YtnjdlhhgnamigaaGreat
open Go.ChangeShapes Go.WideShapes Go.ChangeAt Go.RowKit Go.Joins Go.Bs Go.Deep Go.Pu
/-- A slice that came in, whose elements' cells are known by the type. -/
theorem rows_in {H α : Type} [Inhabited α] {enc : TypeId × Value → H} {w : World} {base fuel sz : Nat} {spare : Nat → Bool} {held : Bool} {v : Value} {x : DataW H × List MemPlace} {t e : TypeId} (ht : Tryz.prog.underlying t = some (.slice e)) (hC : Tryz.prog.cellsOf e = sz) (hsz : 0 < sz) (ec : α → List Value)
    (hin : ∀ n cs y, DataW.trod enc Tryz.prog w base spare held n e cs = some y → ∃ x : α, cs = ec x)
    (h : DataW.trod enc Tryz.prog w base spare held fuel t [v] = some x) :
    ∃ A n c l, v = .slice A n c ∧ l.length = n ∧ n ≤ c ∧ c ≤ maxLen ∧ Cells w A sz ec l := by
  rcases open_slice ht h with ⟨hcs, _⟩ | ⟨a, len, cap, m, n, D, Pl, hcs, _, hl, hm, hmm, _, hi⟩
  · simp only [List.cons.injEq, and_true] at hcs
    exact ⟨none, 0, 0, [], hcs, rfl, Nat.le_refl _, by unfold maxLen; omega, Cells.nil⟩
  · simp only [List.cons.injEq, and_true] at hcs
    have hlm : len ≤ m := by rw [hmm]; split <;> omega
    rw [hC] at hi
    have key : ∀ i, i < len → ∃ x : α, w.cells? base (a.add (i * sz)) sz = some (ec x) := fun i h' => by
      obtain ⟨cs', h1, h2⟩ := hi i (by omega)
      obtain ⟨x, rfl⟩ := hin _ _ _ h2
      exact ⟨x, h1⟩
    obtain ⟨f, hf⟩ : ∃ f : Nat → α, ∀ i, i < len → w.cells? base (a.add (i * sz)) sz = some (ec (f i)) :=
      ⟨fun i => if h' : i < len then Classical.choose (key i h') else default, fun i h' => by simp only [dif_pos h']; exact Classical.choose_spec (key i h')⟩
    refine ⟨some a, len, cap, (List.range len).map f, hcs, by simp, hl, hm, fun i y hy => ?_⟩
    have hil : i < len := by
      have := (List.getElem?_eq_some_iff.1 hy).1
      simpa using this
    have hy2 : y = f i := by simpa [hil] using hy.symm
    subst hy2
    obtain ⟨_, hcl, hat⟩ := World.cells?_some (hf i hil)
    obtain ⟨b, off, spot⟩ := a
    obtain ⟨_, hcl0, hat0⟩ := World.cells?_some (hf 0 (by omega))
    have hz := hat0 0 hsz
    rw [List.getElem?_eq_getElem (show 0 < (ec (f 0)).length by omega)] at hz
    have hspot : spot = none := by
      simpa [Addr.add] using World.cell?_spot hz
    subst hspot
    refine ⟨b, off, rfl, fun j u hj => ?_⟩
    have hjl : j < sz := by
      have := (List.getElem?_eq_some_iff.1 hj).1
      omega
    have h1 := hat j hjl
    rw [hj, add_add] at h1
    have h2 : (⟨b, off, none⟩ : Addr).add (i * sz + j) = ⟨b, off + (i * sz + j), none⟩ := by
      unfold Addr.add
      split
      · rename_i h0; rw [h0]; rfl
      · rfl
    rw [h2] at h1
    exact h1

section
variable {H : Type} {enc : TypeId × Value → H} {w : World} {base : Nat} {spare : Nat → Bool} {held : Bool}
theorem int1_in {t : TypeId} (ht : Tryz.prog.underlying t = some (.int .i64)) {n : Nat} {cs : List Value} {y : DataW H × List MemPlace} (h : DataW.trod enc Tryz.prog w base spare held n t cs = some y) : ∃ k, cs = [.int .i64 k] := by
  obtain ⟨k, h, _⟩ := DataW.trod_int ht h
  exact ⟨k, h⟩
theorem u8_in {n : Nat} {cs : List Value} {y : DataW H × List MemPlace} (h : DataW.trod enc Tryz.prog w base spare held n 5 cs = some y) : ∃ k : {k : Int // 0 ≤ k ∧ k ≤ 255}, cs = [.int .u8 k.1] := by
  obtain ⟨k, h, -, hwf⟩ := DataW.trod_int Tryz.underlying5 h
  simp only [Lit.wf, Bool.and_eq_true, decide_eq_true_eq] at hwf
  have h1 : IntKind.u8.min = 0 := rfl
  have h2 : IntKind.u8.max = 255 := rfl
  rw [h1, h2] at hwf
  exact ⟨⟨k, hwf⟩, h⟩
end
section
variable {H : Type} {enc : TypeId × Value → H} {w : World} {base : Nat} {spare : Nat → Bool} {held : Bool} {b0 : Nat} {v : Value} {d : DataW H} {p : List MemPlace}
set_option maxRecDepth 100000 in
theorem u8_arg (hv : Value.okWide Tryz.prog w .any b0 5 v) (h : DataW.Trod enc Tryz.prog w base spare held 5 v d p) : ∃ x : Int, v = .int .u8 x ∧ 0 ≤ x ∧ x ≤ 255 := by
  obtain ⟨n, rfl⟩ := okWide_int Tryz.underlying5 hv
  obtain ⟨fuel, hf⟩ := h
  obtain ⟨n', e, -, hwf⟩ := DataW.trod_int Tryz.underlying5 hf
  simp [Value.cells] at e
  subst e
  simp only [Lit.wf, Bool.and_eq_true, decide_eq_true_eq] at hwf
  have h1 : IntKind.u8.min = 0 := rfl
  have h2 : IntKind.u8.max = 255 := rfl
  rw [h1, h2] at hwf
  exact ⟨n, rfl, hwf⟩
set_option maxRecDepth 100000 in
theorem u32_arg (hv : Value.okWide Tryz.prog w .any b0 158 v) (h : DataW.Trod enc Tryz.prog w base spare held 158 v d p) : ∃ x : Int, v = .int .u32 x ∧ 0 ≤ x ∧ x ≤ 4294967295 := by
  obtain ⟨n, rfl⟩ := okWide_int Tryz.underlying158 hv
  obtain ⟨fuel, hf⟩ := h
  obtain ⟨n', e, -, hwf⟩ := DataW.trod_int Tryz.underlying158 hf
  simp [Value.cells] at e
  subst e
  simp only [Lit.wf, Bool.and_eq_true, decide_eq_true_eq] at hwf
  have h1 : IntKind.u32.min = 0 := rfl
  have h2 : IntKind.u32.max = 4294967295 := rfl
  rw [h1, h2] at hwf
  exact ⟨n, rfl, hwf⟩
end
end Go.Proofs.YtnjdlhhgnamigaaGreat
