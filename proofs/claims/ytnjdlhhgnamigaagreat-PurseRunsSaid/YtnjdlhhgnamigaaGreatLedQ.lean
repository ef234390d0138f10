/- Plain facts on acts and on what is behind them. -/
import Derived.Test.YtnjdlhhgnamigaaGreatLedNO
namespace Go.Pu
open Go.Pl
theorem ite_all {c : Prop} [Decidable c] {p : Led × Int → Prop} {x y : Led × Int} (hx : c → p x) (hy : ¬ c → p y) : p (if c then x else y) := by
  by_cases h : c
  · rw [if_pos h]; exact hx h
  · rw [if_neg h]; exact hy h
theorem zero_mon : Led.zero.mon := ⟨by decide, by decide, by decide, by decide, fun x h => by simp [Led.zero] at h, fun x h => by simp [Led.zero] at h⟩
theorem win_bd {l : Led} (h : l.mon) (w : Int) : 0 ≤ l.win w ∧ l.win w ≤ 1000000000000 := by
  unfold Led.win
  by_cases hw : w.toNat < l.windows.length
  · rw [List.getD_eq_getElem?_getD, List.getElem?_eq_getElem hw]; exact h.w _ (List.getElem_mem _)
  · rw [List.getD_eq_getElem?_getD, List.getElem?_eq_none (by omega)]; simp
theorem bg_bd {l : Led} (h : l.mon) (w : Int) : (0 ≤ (l.bg w).holds ∧ (l.bg w).holds ≤ 1000000000000) ∧ 0 ≤ (l.bg w).written ∧ (l.bg w).written ≤ 1000000000000 := by
  unfold Led.bg
  by_cases hw : w.toNat < l.bags.length
  · rw [List.getD_eq_getElem?_getD, List.getElem?_eq_getElem hw]; exact h.h _ (List.getElem_mem _)
  · rw [List.getD_eq_getElem?_getD, List.getElem?_eq_none (by omega)]; exact ⟨by decide, by decide⟩
theorem set_w {l : Led} (h : l.mon) (w x : Int) (hx : 0 ≤ x ∧ x ≤ 1000000000000) : ∀ y ∈ l.windows.set w.toNat x, 0 ≤ y ∧ y ≤ 1000000000000 := by
  intro y hy
  rcases List.mem_or_eq_of_mem_set hy with h1 | rfl
  · exact h.w y h1
  · exact hx
theorem set_b {l : Led} (h : l.mon) (w : Int) (b : Bag) (hx : (0 ≤ b.holds ∧ b.holds ≤ 1000000000000) ∧ 0 ≤ b.written ∧ b.written ≤ 1000000000000) : ∀ y ∈ l.bags.set w.toNat b, (0 ≤ y.holds ∧ y.holds ≤ 1000000000000) ∧ 0 ≤ y.written ∧ y.written ≤ 1000000000000 := by
  intro y hy
  rcases List.mem_or_eq_of_mem_set hy with h1 | rfl
  · exact h.h y h1
  · exact hx
theorem doL_mon {l : Led} (h : l.mon) (a : Act) : (doL l a).1.mon := by
  have ho := h.o
  have hk := h.k
  have hi := h.i
  have ht := h.t
  have hw := win_bd h a.window
  have hb := bg_bd h a.bag
  have hz := zero_mon
  have he : ∀ x : Int, x = l.win a.window + a.amount → l.win a.window + a.amount = l.windows.getD a.window.toNat 0 + a.amount := fun _ _ => rfl
  unfold doL
  refine ite_all (p := fun x => x.1.mon) (fun _ => ?_) (fun _ => ?_)
  · refine ite_all (p := fun x => x.1.mon) (fun _ => hz) (fun c1 => ?_)
    refine ite_all (p := fun x => x.1.mon) (fun _ => hz) (fun c2 => ?_)
    refine ite_all (p := fun x => x.1.mon) (fun _ => hz) (fun c3 => ?_)
    simp [Act.amB] at c1
    exact ⟨by simp only; omega, hk, hi, ht, set_w h _ _ (by change 0 ≤ l.win a.window + a.amount ∧ l.win a.window + a.amount ≤ _; omega), h.h⟩
  refine ite_all (p := fun x => x.1.mon) (fun _ => ?_) (fun _ => ?_)
  · refine ite_all (p := fun x => x.1.mon) (fun _ => hz) (fun c1 => ?_)
    refine ite_all (p := fun x => x.1.mon) (fun _ => hz) (fun c2 => ?_)
    refine ite_all (p := fun x => x.1.mon) (fun _ => hz) (fun c3 => ?_)
    simp [Act.amB] at c1
    exact ⟨ho, hk, by simp only; omega, ht, set_w h _ _ (by change 0 ≤ l.win a.window + a.amount ∧ l.win a.window + a.amount ≤ _; omega), h.h⟩
  refine ite_all (p := fun x => x.1.mon) (fun _ => ?_) (fun _ => ?_)
  · refine ite_all (p := fun x => x.1.mon) (fun _ => hz) (fun c1 => ?_)
    refine ite_all (p := fun x => x.1.mon) (fun _ => hz) (fun c2 => ?_)
    refine ite_all (p := fun x => x.1.mon) (fun _ => hz) (fun c3 => ?_)
    simp [Act.amB] at c1
    exact ⟨ho, hk, hi, by simp only; omega, set_w h _ _ (by change 0 ≤ l.win a.window + -a.amount ∧ l.win a.window + -a.amount ≤ _; omega), h.h⟩
  refine ite_all (p := fun x => x.1.mon) (fun _ => ?_) (fun _ => ?_)
  · refine ite_all (p := fun x => x.1.mon) (fun _ => hz) (fun c1 => ?_)
    refine ite_all (p := fun x => x.1.mon) (fun _ => hz) (fun c2 => ?_)
    refine ite_all (p := fun x => x.1.mon) (fun _ => hz) (fun c3 => ?_)
    refine ite_all (p := fun x => x.1.mon) (fun _ => hz) (fun c4 => ?_)
    simp [Act.amB, monB] at c1
    refine ⟨ho, hk, hi, ht, set_w h _ _ (by change 0 ≤ l.win a.window + -a.amount ∧ l.win a.window + -a.amount ≤ _; omega), fun y hy => ?_⟩
    rcases List.mem_append.1 hy with h1 | h1
    · exact h.h y h1
    · simp at h1; subst h1; simp only; omega
  refine ite_all (p := fun x => x.1.mon) (fun _ => ?_) (fun _ => ?_)
  · refine ite_all (p := fun x => x.1.mon) (fun _ => hz) (fun c1 => ?_)
    refine ite_all (p := fun x => x.1.mon) (fun _ => hz) (fun c2 => ?_)
    refine ite_all (p := fun x => x.1.mon) (fun _ => hz) (fun c3 => ?_)
    refine ite_all (p := fun x => x.1.mon) (fun _ => hz) (fun c4 => ?_)
    refine ite_all (p := fun x => x.1.mon) (fun _ => hz) (fun c5 => ?_)
    simp [monB] at c1
    exact ⟨ho, hk, hi, by simp only; omega, h.w, set_b h _ _ (by simp only; omega)⟩
  refine ite_all (p := fun x => x.1.mon) (fun _ => ?_) (fun _ => ?_)
  · refine ite_all (p := fun x => x.1.mon) (fun _ => hz) (fun c1 => ?_)
    refine ite_all (p := fun x => x.1.mon) (fun _ => hz) (fun c2 => ?_)
    refine ite_all (p := fun x => x.1.mon) (fun _ => hz) (fun c3 => ?_)
    exact ⟨by simp only; omega, hk, hi, ht, h.w, set_b h _ _ (by simp only; omega)⟩
  refine ite_all (p := fun x => x.1.mon) (fun _ => ?_) (fun _ => ?_)
  · refine ite_all (p := fun x => x.1.mon) (fun _ => hz) (fun c1 => ?_)
    refine ite_all (p := fun x => x.1.mon) (fun _ => hz) (fun c2 => ?_)
    refine ite_all (p := fun x => x.1.mon) (fun _ => hz) (fun c3 => ?_)
    simp [Act.amB] at c1
    exact ⟨by simp only; omega, by simp only; omega, hi, ht, h.w, h.h⟩
  refine ite_all (p := fun x => x.1.mon) (fun _ => ?_) (fun _ => hz)
  refine ite_all (p := fun x => x.1.mon) (fun _ => hz) (fun c1 => ?_)
  refine ite_all (p := fun x => x.1.mon) (fun _ => hz) (fun c2 => ?_)
  refine ite_all (p := fun x => x.1.mon) (fun _ => hz) (fun c3 => ?_)
  simp [Act.amB] at c1
  exact ⟨ho, by simp only; omega, hi, by simp only; omega, h.w, h.h⟩
theorem doL_difs (l : Led) (a : Act) : (doL l a).1.diffs.length ≤ l.diffs.length + 1 := by
  unfold doL
  repeat' (refine ite_all (p := fun x => x.1.diffs.length ≤ l.diffs.length + 1) (fun _ => ?_) (fun _ => ?_))
  all_goals (first | (simp [Led.zero]; done) | (simp [Led.addW, Led.setBag]; done) | skip)
  simp only
  split <;> simp
theorem runL_snoc (a : Act) : ∀ (sa : List Act) (l : Led), runL l (sa ++ [a]) = (if (doL (runL l sa).1 a).2 = 0 then (doL (runL l sa).1 a).1 else (runL l sa).1, (runL l sa).2 ++ [(doL (runL l sa).1 a).2])
  | [], l => by simp [runL]; rfl
  | b :: r, l => by
    have ih := runL_snoc a r (if (doL l b).2 = 0 then (doL l b).1 else l)
    simp only [List.cons_append, runL]
    rw [ih]
    rfl
theorem runL_len : ∀ (sa : List Act) (l : Led), (runL l sa).2.length = sa.length
  | [], l => by simp [runL]
  | b :: r, l => by simp only [runL, List.length_cons, runL_len r]
theorem runL_mon : ∀ (sa : List Act) {l : Led}, l.mon → (runL l sa).1.mon
  | [], l, h => by simpa [runL] using h
  | b :: r, l, h => by
    simp only [runL]
    refine runL_mon r ?_
    split
    · exact doL_mon h b
    · exact h
theorem runL_difs : ∀ (sa : List Act) (l : Led), (runL l sa).1.diffs.length ≤ l.diffs.length + sa.length
  | [], l => by simp [runL]
  | b :: r, l => by
    simp only [runL, List.length_cons]
    have := runL_difs r (if (doL l b).2 = 0 then (doL l b).1 else l)
    have h2 : (if (doL l b).2 = 0 then (doL l b).1 else l).diffs.length ≤ l.diffs.length + 1 := by
      split
      · exact doL_difs l b
      · omega
    omega
theorem one_len : ∀ (m : Nat) (ds : List Dif), oneB ds = true → (∀ d ∈ ds, 0 ≤ d.bag ∧ d.bag ≤ (m : Int) - 1) → ds.length ≤ m
  | 0, ds, _, h => by
    cases ds with
    | nil => simp
    | cons d r => have := h d (by simp); omega
  | m + 1, ds, ho, h => by
    have key : ∀ ds : List Dif, oneB ds = true → ds.length ≤ (ds.filter fun d => d.bag != (m : Int)).length + 1 ∧ oneB (ds.filter fun d => d.bag != (m : Int)) = true ∧ ((∃ d ∈ ds, d.bag = m) ∨ ds.filter (fun d => d.bag != (m : Int)) = ds) := by
      intro ds
      induction ds with
      | nil => intro _; simp [oneB]
      | cons d r ih =>
        intro ho
        simp only [oneB, Bool.and_eq_true, Bool.not_eq_true'] at ho
        obtain ⟨i1, i2, i3⟩ := ih ho.2
        have hr : ∀ x ∈ r, ¬ x.bag = d.bag := by
          intro x hx e
          have := List.any_eq_false.1 ho.1 x hx
          simp [e] at this
        by_cases hd : d.bag = m
        · have hf : (d :: r).filter (fun d => d.bag != (m : Int)) = r := by
            rw [List.filter_cons_of_neg (by simp [hd])]
            exact List.filter_eq_self.2 (fun x hx => by have := hr x hx; simp; omega)
          rw [hf]
          exact ⟨by simp, ho.2, .inl ⟨d, by simp, hd⟩⟩
        · rw [List.filter_cons_of_pos (by simpa using hd)]
          refine ⟨by simp; omega, ?_, ?_⟩
          · simp only [oneB, Bool.and_eq_true, Bool.not_eq_true']
            refine ⟨List.any_eq_false.2 (fun x hx => ?_), i2⟩
            have := hr x (List.mem_filter.1 hx).1
            simpa using this
          · rcases i3 with ⟨x, hx, e⟩ | e
            · exact .inl ⟨x, by simp [hx], e⟩
            · exact .inr (by rw [e])
    obtain ⟨k1, k2, -⟩ := key ds ho
    have := one_len m (ds.filter fun d => d.bag != (m : Int)) k2 (fun d hd => by
      have h1 := h d ((List.mem_filter.1 hd).1)
      have h2 := (List.mem_filter.1 hd).2
      simp at h2
      omega)
    omega
theorem ok_mon {l : Led} (h : l.okB = true) : l.mon ∧ l.diffs.length ≤ 100 ∧ l.bags.length ≤ 100 ∧ l.windows.length ≤ 10 := by
  unfold Led.okB at h
  simp only [Bool.and_eq_true, decide_eq_true_eq, List.all_cons, List.all_nil, Bool.and_true, monB] at h
  obtain ⟨⟨⟨h1, h2⟩, h3⟩, h4, ⟨h5, h6, h7, h8, h9⟩, h10, h11, h12, -⟩ := h
  have hd := one_len l.bags.length l.diffs h12 (fun d hd => by
    have := List.all_eq_true.1 h11 d hd
    unfold Led.difB at this
    simp only [Bool.and_eq_true, decide_eq_true_eq] at this
    exact this.1)
  refine ⟨⟨h5, h6, h8, h9, fun x hx => of_decide_eq_true (List.all_eq_true.1 h4 x hx), fun b hb => ?_⟩, by omega, h3, h2⟩
  obtain ⟨i, hi, rfl⟩ := List.getElem_of_mem hb
  have := List.all_eq_true.1 h10 i (List.mem_range.2 hi)
  unfold Led.bagB at this
  simp only [Bool.and_eq_true, decide_eq_true_eq, monB, List.getD_eq_getElem?_getD, List.getElem?_eq_getElem hi, Option.getD_some] at this
  obtain ⟨-, -, -, a1, a2, -⟩ := this
  exact ⟨a2, a1⟩
end Go.Pu
