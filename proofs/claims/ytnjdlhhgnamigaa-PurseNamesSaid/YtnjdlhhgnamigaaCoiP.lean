/- Plain law: an act without an error keeps a ledger valid. -/
import Derived.Test.YtnjdlhhgnamigaaLedQ
namespace Go.Pu
open Go.Pl
theorem isum_set : ∀ (l : List Int) (k : Nat) (x : Int), k < l.length → isum (l.set k x) = isum l + (x - l.getD k 0)
  | [], k, x, h => by simp at h
  | a :: r, 0, x, _ => by simp [isum]; omega
  | a :: r, k + 1, x, h => by
    have := isum_set r k x (by simpa using h)
    simp only [List.set_cons_succ, isum, this, List.getD_cons_succ]; omega
theorem isum_holds_set : ∀ (l : List Bag) (k : Nat) (b : Bag), k < l.length → isum ((l.set k b).map Bag.holds) = isum (l.map Bag.holds) + (b.holds - (l.getD k default).holds)
  | [], k, x, h => by simp at h
  | a :: r, 0, x, _ => by simp [isum]; omega
  | a :: r, k + 1, x, h => by
    have := isum_holds_set r k x (by simpa using h)
    simp only [List.set_cons_succ, List.map_cons, isum, this, List.getD_cons_succ]; omega
/-- a bag is right in a ledger with n windows -/
structure BagOk (l : Led) (i : Nat) (b : Bag) : Prop where
  w : 0 ≤ b.window ∧ b.window ≤ (l.windows.length : Int) - 1
  s : 1 ≤ b.sl ∧ b.sl ≤ 1000000
  n : 1 ≤ b.now ∧ b.now ≤ 1000000
  r : 0 ≤ b.written ∧ b.written ≤ 1000000000000
  h : 0 ≤ b.holds ∧ b.holds ≤ 1000000000000
  u : ∀ j (hj : j < l.bags.length), j ≠ i → l.bags[j].has b.sl = false ∧ l.bags[j].has b.now = false
  e : b.opened = true → b.holds = 0 ∧ (b.broken = true → ∃ d ∈ l.diffs, d.bag = i)
structure DifOk (l : Led) (d : Dif) : Prop where
  b : 0 ≤ d.bag ∧ d.bag ≤ (l.bags.length : Int) - 1
  o : (l.bags.getD d.bag.toNat default).opened = true
  e : -1000000000000 ≤ d.less ∧ d.less ≤ 1000000000000
  k : d.broken = (l.bags.getD d.bag.toNat default).broken
  z : d.less = 0 → d.broken = true
structure Led.Ok (l : Led) : Prop where
  n1 : 1 ≤ l.windows.length
  n2 : l.windows.length ≤ 10
  m2 : l.bags.length ≤ 100
  w : ∀ x ∈ l.windows, 0 ≤ x ∧ x ≤ 1000000000000
  o : 0 ≤ l.office ∧ l.office ≤ 1000000000000
  k : 0 ≤ l.bank ∧ l.bank ≤ 1000000000000
  g : 0 ≤ l.begun ∧ l.begun ≤ 1000000000000
  i : 0 ≤ l.inn ∧ l.inn ≤ 1000000000000
  t : 0 ≤ l.out ∧ l.out ≤ 1000000000000
  b : ∀ i (hi : i < l.bags.length), BagOk l i l.bags[i]
  d : ∀ d ∈ l.diffs, DifOk l d
  one : oneB l.diffs = true
  tot : l.total = l.begun + l.inn - l.out
theorem sealed_false {l : Led} {s but : Int} : l.sealed s but = false ↔ ∀ j (hj : j < l.bags.length), (j : Int) ≠ but → l.bags[j].has s = false := by
  unfold Led.sealed
  rw [List.any_eq_false]
  constructor
  · intro h j hj hb
    have := h j (List.mem_range.2 hj)
    simpa [hb, List.getElem?_eq_getElem hj] using this
  · intro h j hj
    have hj := List.mem_range.1 hj
    by_cases hb : (j : Int) = but
    · simp [hb]
    · have := h j hj hb
      simp [hb, List.getElem?_eq_getElem hj, this]
theorem bag_iff {l : Led} {i : Nat} (hi : i < l.bags.length) : l.bagB i = true ↔ BagOk l i l.bags[i] := by
  unfold Led.bagB
  have hg : l.bags.getD i default = l.bags[i] := by simp [hi]
  rw [hg]
  simp only [Bool.and_eq_true, Bool.not_eq_true', decide_eq_true_eq, sealB, monB, Bool.and_eq_false_iff, Bool.or_eq_false_iff]
  rw [sealed_false, sealed_false]
  constructor
  · rintro ⟨a, b, c, d, e, f, g, h⟩
    refine ⟨a, b, c, d, e, fun j hj hne => ⟨f j hj (by omega), g j hj (by omega)⟩, fun ho => ?_⟩
    rcases h with h | ⟨h1, h2⟩
    · rw [ho] at h; cases h
    · refine ⟨by simpa using h1, fun hb => ?_⟩
      rcases h2 with h2 | h2
      · rw [hb] at h2; cases h2
      · have h3 : l.found i = true := by simpa using h2
        unfold Led.found at h3
        obtain ⟨d, hd, he⟩ := List.any_eq_true.1 h3
        exact ⟨d, hd, by simpa using he⟩
  · rintro ⟨a, b, c, d, e, f, h⟩
    refine ⟨a, b, c, d, e, fun j hj hne => (f j hj (by omega)).1, fun j hj hne => (f j hj (by omega)).2, ?_⟩
    by_cases ho : l.bags[i].opened = true
    · obtain ⟨h1, h2⟩ := h ho
      refine .inr ⟨by simp [h1], ?_⟩
      by_cases hb : l.bags[i].broken = true
      · obtain ⟨d, hd, he⟩ := h2 hb
        refine .inr ?_
        have : l.found i = true := List.any_eq_true.2 ⟨d, hd, by simp [he]⟩
        simp [this]
      · exact .inl (by simpa using hb)
    · exact .inl (by simpa using ho)
theorem dif_iff {l : Led} {d : Dif} : l.difB d = true ↔ DifOk l d := by
  unfold Led.difB
  simp only [Bool.and_eq_true, Bool.not_eq_true', decide_eq_true_eq, Bool.and_eq_false_iff, Bool.not_eq_false']
  constructor
  · rintro ⟨a, b, c, e, f⟩
    refine ⟨a, b, c, e, fun hz => ?_⟩
    rcases f with f | f
    · simp [hz] at f
    · exact f
  · rintro ⟨a, b, c, e, f⟩
    refine ⟨a, b, c, e, ?_⟩
    by_cases hz : d.less = 0
    · exact .inr (f hz)
    · exact .inl (by simpa using hz)
theorem ok_iff {l : Led} : l.okB = true ↔ l.Ok := by
  unfold Led.okB
  simp only [Bool.and_eq_true, decide_eq_true_eq, List.all_cons, List.all_nil, Bool.and_true, monB, List.all_eq_true, List.mem_range]
  constructor
  · rintro ⟨⟨⟨h1, h2⟩, h3⟩, h4, ⟨h5, h6, h7, h8, h9⟩, h10, h11, h12, h13⟩
    exact ⟨h1, h2, h3, h4, h5, h6, h7, h8, h9, fun i hi => (bag_iff hi).1 (h10 i hi), fun d hd => dif_iff.1 (h11 d hd), h12, h13⟩
  · rintro ⟨h1, h2, h3, h4, h5, h6, h7, h8, h9, h10, h11, h12, h13⟩
    exact ⟨⟨⟨h1, h2⟩, h3⟩, h4, ⟨h5, h6, h7, h8, h9⟩, fun i hi => (bag_iff hi).2 (h10 i hi), fun d hd => dif_iff.2 (h11 d hd), h12, h13⟩
/-- bags and differences as before -/
theorem BagOk.same {l m : Led} {i : Nat} {b : Bag} (h : BagOk l i b) (hw : m.windows.length = l.windows.length) (hb : m.bags = l.bags) (hd : m.diffs = l.diffs) : BagOk m i b := by
  obtain ⟨a, c, d, e, f, g, k⟩ := h
  refine ⟨by rw [hw]; exact a, c, d, e, f, ?_, by rw [hd]; exact k⟩
  rw [hb]; exact g
theorem DifOk.same {l m : Led} {d : Dif} (h : DifOk l d) (hb : m.bags = l.bags) : DifOk m d := by
  obtain ⟨a, c, e, f, g⟩ := h
  exact ⟨by rw [hb]; exact a, by rw [hb]; exact c, e, by rw [hb]; exact f, g⟩
theorem Led.Ok.money {l m : Led} (h : l.Ok) (hw : m.windows.length = l.windows.length) (hb : m.bags = l.bags) (hd : m.diffs = l.diffs) (h1 : ∀ x ∈ m.windows, 0 ≤ x ∧ x ≤ 1000000000000) (ho : 0 ≤ m.office ∧ m.office ≤ 1000000000000) (hk : 0 ≤ m.bank ∧ m.bank ≤ 1000000000000) (hg : m.begun = l.begun) (hi : 0 ≤ m.inn ∧ m.inn ≤ 1000000000000) (ht : 0 ≤ m.out ∧ m.out ≤ 1000000000000) (hs : m.total = m.begun + m.inn - m.out) : m.Ok := by
  refine ⟨by rw [hw]; exact h.n1, by rw [hw]; exact h.n2, by rw [hb]; exact h.m2, h1, ho, hk, by rw [hg]; exact h.g, hi, ht, ?_, ?_, by rw [hd]; exact h.one, hs⟩
  · rw [hb]; exact fun i hi => (h.b i hi).same hw hb hd
  · rw [hd]; exact fun d hd => (h.d d hd).same hb
theorem Led.Ok.mn {l : Led} (h : l.Ok) : l.mon := (ok_mon (ok_iff.2 h)).1
theorem setw_all {l : Led} (h : l.Ok) (w x : Int) (hx : 0 ≤ x ∧ x ≤ 1000000000000) : ∀ y ∈ l.windows.set w.toNat x, 0 ≤ y ∧ y ≤ 1000000000000 := set_w h.mn w x hx
theorem not_open {l : Led} (h : l.Ok) {i : Nat} (ho : (l.bags.getD i default).opened = false) : ∀ d ∈ l.diffs, d.bag.toNat ≠ i := by
  intro d hd he
  have := (h.d d hd).o
  rw [he, ho] at this; cases this
theorem one_snoc : ∀ (l : List Dif) (d : Dif), oneB l = true → (∀ x ∈ l, x.bag ≠ d.bag) → oneB (l ++ [d]) = true
  | [], d, _, _ => by simp [oneB]
  | a :: r, d, h, h2 => by
    simp only [oneB, Bool.and_eq_true, Bool.not_eq_true', List.cons_append] at h ⊢
    refine ⟨?_, one_snoc r d h.2 (fun x hx => h2 x (by simp [hx]))⟩
    rw [List.any_append, h.1]
    have := h2 a (by simp)
    simp; omega
theorem ok_pack {l : Led} (h : l.Ok) (w s am wr : Int) (hw : 0 ≤ w ∧ w ≤ (l.windows.length : Int) - 1) (hs : 1 ≤ s ∧ s ≤ 1000000) (ha : 1 ≤ am ∧ am ≤ 1000000000000) (hr : 0 ≤ wr ∧ wr ≤ 1000000000000) (hm : l.bags.length < 100) (hn : l.sealed s (-1) = false) (hg : am ≤ l.win w) :
    Led.Ok { l.addW w (-am) with bags := l.bags ++ [⟨w, s, wr, am, s, false⟩] } := by
  have hn2 := sealed_false.1 hn
  have hwb := win_bd h.mn w
  have hwn : w.toNat < l.windows.length := by omega
  refine ⟨by simpa [Led.addW] using h.n1, by simpa [Led.addW] using h.n2, by simp; omega, ?_, h.o, h.k, h.g, h.i, h.t, ?_, ?_, h.one, ?_⟩
  · refine setw_all h _ _ ?_
    change 0 ≤ l.win w + -am ∧ l.win w + -am ≤ _; omega
  · intro i hi
    simp only [List.length_append, List.length_singleton] at hi
    by_cases hl : i < l.bags.length
    · obtain ⟨a, c, d, e, f, g, k⟩ := h.b i hl
      rw [List.getElem_append_left hl]
      refine ⟨by simpa [Led.addW] using a, c, d, e, f, fun j hj hne => ?_, k⟩
      simp only [List.length_append, List.length_singleton] at hj
      by_cases hl2 : j < l.bags.length
      · simp only [List.getElem_append_left hl2]; exact g j hl2 hne
      · obtain rfl : j = l.bags.length := by omega
        have := hn2 i hl (by omega)
        unfold Bag.has at this ⊢
        simp only [Bool.or_eq_false_iff, beq_eq_false_iff_ne, ne_eq, List.getElem_concat_length] at this ⊢
        omega
    · obtain rfl : i = l.bags.length := by omega
      simp only [List.getElem_concat_length]
      refine ⟨by simpa [Led.addW] using hw, hs, hs, hr, ⟨by simp only; omega, ha.2⟩, fun j hj hne => ?_, fun ho => by cases ho⟩
      simp only [List.length_append, List.length_singleton] at hj
      have hl2 : j < l.bags.length := by omega
      simp only [List.getElem_append_left hl2]
      exact ⟨hn2 j hl2 (by omega), hn2 j hl2 (by omega)⟩
  · intro d hd
    obtain ⟨a, c, e, f, g⟩ := h.d d hd
    have hl : d.bag.toNat < l.bags.length := by omega
    have hgd : (l.bags ++ [(⟨w, s, wr, am, s, false⟩ : Bag)]).getD d.bag.toNat default = l.bags.getD d.bag.toNat default := by
      simp only [List.getD_eq_getElem?_getD, List.getElem?_append_left hl]
    exact ⟨by simp; omega, by simp only; rw [hgd]; exact c, e, by simp only; rw [hgd]; exact f, g⟩
  · have ht := h.tot
    have e1 := isum_set l.windows w.toNat (l.windows.getD w.toNat 0 + -am) hwn
    unfold Led.total Led.addW at *
    simp only [List.map_append, isum_append, List.map_cons, List.map_nil, isum] at *
    omega
theorem bg_get {l : Led} {w : Int} (h : 0 ≤ w ∧ w ≤ (l.bags.length : Int) - 1) (hl : w.toNat < l.bags.length) : l.bg w = l.bags[w.toNat] := by
  unfold Led.bg; simp [hl]
theorem ok_touch {l : Led} (h : l.Ok) (w s am : Int) (hw : 0 ≤ w ∧ w ≤ (l.bags.length : Int) - 1) (hs : 1 ≤ s ∧ s ≤ 1000000) (ha : 0 ≤ am ∧ am ≤ 1000000000000) (ho : (l.bg w).opened = false) (hn : l.sealed s (-1) = false) (hg : am ≤ (l.bg w).holds) (ht : l.out + am ≤ 1000000000000) :
    Led.Ok { l.setBag w { l.bg w with holds := (l.bg w).holds - am, now := s } with out := l.out + am } := by
  have hn2 := sealed_false.1 hn
  have hl : w.toNat < l.bags.length := by omega
  have hno := not_open h (i := w.toNat) ho
  have hbg := bg_get hw hl
  have hB := h.b w.toNat hl
  rw [← hbg] at hB
  refine ⟨h.n1, h.n2, by simpa [Led.setBag] using h.m2, h.w, h.o, h.k, h.g, h.i, ⟨by have := h.t; simp only; omega, ht⟩, ?_, ?_, h.one, ?_⟩
  · intro i hi
    simp only [Led.setBag, List.length_set] at hi
    by_cases he : i = w.toNat
    · subst he
      simp only [Led.setBag, List.getElem_set_self]
      obtain ⟨a, c, d, e, f, g, k⟩ := hB
      refine ⟨a, c, hs, e, ⟨by simp only; omega, by simp only; omega⟩, fun j hj hne => ?_, fun h1 => by simp only at h1; rw [ho] at h1; cases h1⟩
      simp only [Led.setBag, List.length_set] at hj
      simp only [List.getElem_set_ne (Ne.symm hne)]
      exact ⟨(g j hj hne).1, hn2 j hj (by omega)⟩
    · simp only [Led.setBag, List.getElem_set_ne (Ne.symm he)]
      obtain ⟨a, c, d, e, f, g, k⟩ := h.b i hi
      refine ⟨a, c, d, e, f, fun j hj hne => ?_, k⟩
      simp only [Led.setBag, List.length_set] at hj
      by_cases he2 : j = w.toNat
      · subst he2
        simp only [List.getElem_set_self]
        have h1 := g w.toNat hl hne
        have h2 := hn2 i hi (by omega)
        rw [← hbg] at h1
        unfold Bag.has at *
        simp only [Bool.or_eq_false_iff, beq_eq_false_iff_ne, ne_eq] at *
        omega
      · simp only [List.getElem_set_ne (Ne.symm he2)]
        exact g j hj hne
  · intro d hd
    obtain ⟨a, c, e, f, g⟩ := h.d d hd
    have hne := hno d hd
    have hgd : (l.bags.set w.toNat { l.bg w with holds := (l.bg w).holds - am, now := s }).getD d.bag.toNat default = l.bags.getD d.bag.toNat default := by
      simp only [List.getD_eq_getElem?_getD, List.getElem?_set_ne (Ne.symm hne)]
    exact ⟨by simpa [Led.setBag] using a, by simp only [Led.setBag]; rw [hgd]; exact c, e, by simp only [Led.setBag]; rw [hgd]; exact f, g⟩
  · have ht := h.tot
    have e1 := isum_holds_set l.bags w.toNat { l.bg w with holds := (l.bg w).holds - am, now := s } hl
    change _ = _ + ((l.bg w).holds - am - (l.bg w).holds) at e1
    unfold Led.total Led.setBag at *
    simp only at *
    omega
theorem ok_open {l : Led} (h : l.Ok) (w : Int) (hw : 0 ≤ w ∧ w ≤ (l.bags.length : Int) - 1) (ho : (l.bg w).opened = false) (hg : l.office + (l.bg w).holds ≤ 1000000000000) :
    Led.Ok { l.setBag w { l.bg w with holds := 0, opened := true } with
        office := l.office + (l.bg w).holds
        diffs := if (l.bg w).holds != (l.bg w).written || (l.bg w).broken then l.diffs ++ [⟨w, (l.bg w).written - (l.bg w).holds, (l.bg w).broken⟩] else l.diffs } := by
  have hl : w.toNat < l.bags.length := by omega
  have hno := not_open h (i := w.toNat) ho
  have hbg := bg_get hw hl
  have hB := h.b w.toNat hl
  rw [← hbg] at hB
  have hsub : ∀ d ∈ l.diffs, d ∈ (if (l.bg w).holds != (l.bg w).written || (l.bg w).broken then l.diffs ++ [⟨w, (l.bg w).written - (l.bg w).holds, (l.bg w).broken⟩] else l.diffs) := by
    intro d hd; split
    · simp [hd]
    · exact hd
  refine ⟨h.n1, h.n2, by simpa [Led.setBag] using h.m2, h.w, ⟨by have := h.o; have := hB.h; simp only; omega, hg⟩, h.k, h.g, h.i, h.t, ?_, ?_, ?_, ?_⟩
  · intro i hi
    simp only [Led.setBag, List.length_set] at hi
    by_cases he : i = w.toNat
    · subst he
      simp only [Led.setBag, List.getElem_set_self]
      obtain ⟨a, c, d, e, f, g, k⟩ := hB
      refine ⟨a, c, d, e, by simp, fun j hj hne => ?_, fun _ => ⟨rfl, fun hb => ?_⟩⟩
      · simp only [Led.setBag, List.length_set] at hj
        simp only [List.getElem_set_ne (Ne.symm hne)]
        exact g j hj hne
      · have hb2 : (l.bg w).broken = true := hb
        refine ⟨⟨w, (l.bg w).written - (l.bg w).holds, (l.bg w).broken⟩, ?_, by simp only; omega⟩
        simp only [hb2, Bool.or_true, if_true]; simp
    · simp only [Led.setBag, List.getElem_set_ne (Ne.symm he)]
      obtain ⟨a, c, d, e, f, g, k⟩ := h.b i hi
      refine ⟨a, c, d, e, f, fun j hj hne => ?_, fun h1 => ⟨(k h1).1, fun h2 => ?_⟩⟩
      · simp only [Led.setBag, List.length_set] at hj
        by_cases he2 : j = w.toNat
        · subst he2
          simp only [List.getElem_set_self]
          have h1 := g w.toNat hl hne
          rw [← hbg] at h1
          exact h1
        · simp only [List.getElem_set_ne (Ne.symm he2)]
          exact g j hj hne
      · obtain ⟨d, hd, hd2⟩ := (k h1).2 h2
        exact ⟨d, hsub d hd, hd2⟩
  · have old : ∀ d ∈ l.diffs, DifOk { l.setBag w { l.bg w with holds := 0, opened := true } with
        office := l.office + (l.bg w).holds
        diffs := if (l.bg w).holds != (l.bg w).written || (l.bg w).broken then l.diffs ++ [⟨w, (l.bg w).written - (l.bg w).holds, (l.bg w).broken⟩] else l.diffs } d := by
      intro d hd
      obtain ⟨a, c, e, f, g⟩ := h.d d hd
      have hne := hno d hd
      have hgd : (l.bags.set w.toNat { l.bg w with holds := 0, opened := true }).getD d.bag.toNat default = l.bags.getD d.bag.toNat default := by
        simp only [List.getD_eq_getElem?_getD, List.getElem?_set_ne (Ne.symm hne)]
      exact ⟨by simpa [Led.setBag] using a, by simp only [Led.setBag]; rw [hgd]; exact c, e, by simp only [Led.setBag]; rw [hgd]; exact f, g⟩
    intro d hd
    by_cases hc : ((l.bg w).holds != (l.bg w).written || (l.bg w).broken) = true
    · simp only [hc, if_true] at hd
      rcases List.mem_append.1 hd with h1 | h1
      · exact old d h1
      · simp only [List.mem_singleton] at h1
        subst h1
        have hgd : (l.bags.set w.toNat { l.bg w with holds := 0, opened := true }).getD w.toNat default = { l.bg w with holds := 0, opened := true } := by
          simp only [List.getD_eq_getElem?_getD, List.getElem?_set_self hl, Option.getD_some]
        have h1 := hB.r
        have h2 := hB.h
        refine ⟨by simpa [Led.setBag] using hw, by simp only [Led.setBag]; rw [hgd], by simp only; omega, by simp only [Led.setBag]; rw [hgd]; rfl, fun hz => ?_⟩
        simp only at hz
        simp only [Bool.or_eq_true, bne_iff_ne, ne_eq] at hc
        rcases hc with hc | hc
        · omega
        · exact hc
    · simp only [hc] at hd
      exact old d hd
  · simp only
    split
    · refine one_snoc _ _ h.one (fun x hx => ?_)
      have := hno x hx
      have := (h.d x hx).b
      simp only; omega
    · exact h.one
  · have ht := h.tot
    have e1 := isum_holds_set l.bags w.toNat { l.bg w with holds := 0, opened := true } hl
    change _ = _ + (0 - (l.bg w).holds) at e1
    unfold Led.total Led.setBag at *
    simp only at *
    omega
theorem doL_ok {l : Led} (h : l.Ok) (a : Act) : ((doL l a).2 = 0 ∧ (doL l a).1.Ok ∧ (doL l a).1.begun = l.begun) ∨ ((doL l a).2 ≠ 0 ∧ (doL l a).1 = Led.zero) := by
  have ho := h.o
  have hk := h.k
  have hi := h.i
  have ht := h.t
  have hwb := win_bd h.mn a.window
  have hbb := bg_bd h.mn a.bag
  have htot := h.tot
  have hz : ∀ n : Int, n ≠ 0 → ((((Led.zero, n) : Led × Int).2 = 0 ∧ ((Led.zero, n) : Led × Int).1.Ok ∧ ((Led.zero, n) : Led × Int).1.begun = l.begun) ∨ (((Led.zero, n) : Led × Int).2 ≠ 0 ∧ ((Led.zero, n) : Led × Int).1 = Led.zero)) := fun n hn => .inr ⟨hn, rfl⟩
  have key : ∀ x : Int, ¬ (!l.winB a.window || !a.amB) = true → isum (l.windows.set a.window.toNat (l.windows.getD a.window.toNat 0 + x)) = isum l.windows + x := by
    intro x hx
    simp [Led.winB] at hx
    rw [isum_set _ _ _ (by omega)]; omega
  unfold doL
  refine ite_all (p := fun x => (x.2 = 0 ∧ x.1.Ok ∧ x.1.begun = l.begun) ∨ (x.2 ≠ 0 ∧ x.1 = Led.zero)) (fun _ => ?_) (fun _ => ?_)
  · refine ite_all (p := fun x => (x.2 = 0 ∧ x.1.Ok ∧ x.1.begun = l.begun) ∨ (x.2 ≠ 0 ∧ x.1 = Led.zero)) (fun _ => hz _ (by decide)) (fun c1 => ?_)
    refine ite_all (p := fun x => (x.2 = 0 ∧ x.1.Ok ∧ x.1.begun = l.begun) ∨ (x.2 ≠ 0 ∧ x.1 = Led.zero)) (fun _ => hz _ (by decide)) (fun c2 => ?_)
    refine ite_all (p := fun x => (x.2 = 0 ∧ x.1.Ok ∧ x.1.begun = l.begun) ∨ (x.2 ≠ 0 ∧ x.1 = Led.zero)) (fun _ => hz _ (by decide)) (fun c3 => ?_)
    have c1' := c1
    have k1 := key a.amount c1
    simp [Act.amB] at c1
    refine .inl ⟨rfl, h.money (by simp [Led.addW]) rfl rfl (setw_all h _ _ (by change 0 ≤ l.win a.window + a.amount ∧ l.win a.window + a.amount ≤ _; omega)) (by simp only; omega) hk rfl hi ht ?_, rfl⟩
    unfold Led.total Led.addW at *
    simp only at *
    omega
  refine ite_all (p := fun x => (x.2 = 0 ∧ x.1.Ok ∧ x.1.begun = l.begun) ∨ (x.2 ≠ 0 ∧ x.1 = Led.zero)) (fun _ => ?_) (fun _ => ?_)
  · refine ite_all (p := fun x => (x.2 = 0 ∧ x.1.Ok ∧ x.1.begun = l.begun) ∨ (x.2 ≠ 0 ∧ x.1 = Led.zero)) (fun _ => hz _ (by decide)) (fun c1 => ?_)
    refine ite_all (p := fun x => (x.2 = 0 ∧ x.1.Ok ∧ x.1.begun = l.begun) ∨ (x.2 ≠ 0 ∧ x.1 = Led.zero)) (fun _ => hz _ (by decide)) (fun c2 => ?_)
    refine ite_all (p := fun x => (x.2 = 0 ∧ x.1.Ok ∧ x.1.begun = l.begun) ∨ (x.2 ≠ 0 ∧ x.1 = Led.zero)) (fun _ => hz _ (by decide)) (fun c3 => ?_)
    have k1 := key a.amount c1
    simp [Act.amB] at c1
    refine .inl ⟨rfl, h.money (by simp [Led.addW]) rfl rfl (setw_all h _ _ (by change 0 ≤ l.win a.window + a.amount ∧ l.win a.window + a.amount ≤ _; omega)) ho hk rfl (by simp only; omega) ht ?_, rfl⟩
    unfold Led.total Led.addW at *
    simp only at *
    omega
  refine ite_all (p := fun x => (x.2 = 0 ∧ x.1.Ok ∧ x.1.begun = l.begun) ∨ (x.2 ≠ 0 ∧ x.1 = Led.zero)) (fun _ => ?_) (fun _ => ?_)
  · refine ite_all (p := fun x => (x.2 = 0 ∧ x.1.Ok ∧ x.1.begun = l.begun) ∨ (x.2 ≠ 0 ∧ x.1 = Led.zero)) (fun _ => hz _ (by decide)) (fun c1 => ?_)
    refine ite_all (p := fun x => (x.2 = 0 ∧ x.1.Ok ∧ x.1.begun = l.begun) ∨ (x.2 ≠ 0 ∧ x.1 = Led.zero)) (fun _ => hz _ (by decide)) (fun c2 => ?_)
    refine ite_all (p := fun x => (x.2 = 0 ∧ x.1.Ok ∧ x.1.begun = l.begun) ∨ (x.2 ≠ 0 ∧ x.1 = Led.zero)) (fun _ => hz _ (by decide)) (fun c3 => ?_)
    have k1 := key (-a.amount) c1
    simp [Act.amB] at c1
    refine .inl ⟨rfl, h.money (by simp [Led.addW]) rfl rfl (setw_all h _ _ (by change 0 ≤ l.win a.window + -a.amount ∧ l.win a.window + -a.amount ≤ _; omega)) ho hk rfl hi (by simp only; omega) ?_, rfl⟩
    unfold Led.total Led.addW at *
    simp only at *
    omega
  refine ite_all (p := fun x => (x.2 = 0 ∧ x.1.Ok ∧ x.1.begun = l.begun) ∨ (x.2 ≠ 0 ∧ x.1 = Led.zero)) (fun _ => ?_) (fun _ => ?_)
  · refine ite_all (p := fun x => (x.2 = 0 ∧ x.1.Ok ∧ x.1.begun = l.begun) ∨ (x.2 ≠ 0 ∧ x.1 = Led.zero)) (fun _ => hz _ (by decide)) (fun c1 => ?_)
    refine ite_all (p := fun x => (x.2 = 0 ∧ x.1.Ok ∧ x.1.begun = l.begun) ∨ (x.2 ≠ 0 ∧ x.1 = Led.zero)) (fun _ => hz _ (by decide)) (fun c2 => ?_)
    refine ite_all (p := fun x => (x.2 = 0 ∧ x.1.Ok ∧ x.1.begun = l.begun) ∨ (x.2 ≠ 0 ∧ x.1 = Led.zero)) (fun _ => hz _ (by decide)) (fun c3 => ?_)
    refine ite_all (p := fun x => (x.2 = 0 ∧ x.1.Ok ∧ x.1.begun = l.begun) ∨ (x.2 ≠ 0 ∧ x.1 = Led.zero)) (fun _ => hz _ (by decide)) (fun c4 => ?_)
    simp [Led.winB, sealB, Act.amB, monB] at c1
    exact .inl ⟨rfl, ok_pack h a.window a.sl a.amount a.written (by omega) (by omega) (by omega) (by omega) (by omega) (by simpa using c3) (by omega), rfl⟩
  refine ite_all (p := fun x => (x.2 = 0 ∧ x.1.Ok ∧ x.1.begun = l.begun) ∨ (x.2 ≠ 0 ∧ x.1 = Led.zero)) (fun _ => ?_) (fun _ => ?_)
  · refine ite_all (p := fun x => (x.2 = 0 ∧ x.1.Ok ∧ x.1.begun = l.begun) ∨ (x.2 ≠ 0 ∧ x.1 = Led.zero)) (fun _ => hz _ (by decide)) (fun c1 => ?_)
    refine ite_all (p := fun x => (x.2 = 0 ∧ x.1.Ok ∧ x.1.begun = l.begun) ∨ (x.2 ≠ 0 ∧ x.1 = Led.zero)) (fun _ => hz _ (by decide)) (fun c2 => ?_)
    refine ite_all (p := fun x => (x.2 = 0 ∧ x.1.Ok ∧ x.1.begun = l.begun) ∨ (x.2 ≠ 0 ∧ x.1 = Led.zero)) (fun _ => hz _ (by decide)) (fun c3 => ?_)
    refine ite_all (p := fun x => (x.2 = 0 ∧ x.1.Ok ∧ x.1.begun = l.begun) ∨ (x.2 ≠ 0 ∧ x.1 = Led.zero)) (fun _ => hz _ (by decide)) (fun c4 => ?_)
    refine ite_all (p := fun x => (x.2 = 0 ∧ x.1.Ok ∧ x.1.begun = l.begun) ∨ (x.2 ≠ 0 ∧ x.1 = Led.zero)) (fun _ => hz _ (by decide)) (fun c5 => ?_)
    simp [Led.bgB, sealB, monB] at c1
    exact .inl ⟨rfl, ok_touch h a.bag a.sl a.amount (by omega) (by omega) (by omega) (by simpa using c2) (by simpa using c3) (by omega) (by omega), rfl⟩
  refine ite_all (p := fun x => (x.2 = 0 ∧ x.1.Ok ∧ x.1.begun = l.begun) ∨ (x.2 ≠ 0 ∧ x.1 = Led.zero)) (fun _ => ?_) (fun _ => ?_)
  · refine ite_all (p := fun x => (x.2 = 0 ∧ x.1.Ok ∧ x.1.begun = l.begun) ∨ (x.2 ≠ 0 ∧ x.1 = Led.zero)) (fun _ => hz _ (by decide)) (fun c1 => ?_)
    refine ite_all (p := fun x => (x.2 = 0 ∧ x.1.Ok ∧ x.1.begun = l.begun) ∨ (x.2 ≠ 0 ∧ x.1 = Led.zero)) (fun _ => hz _ (by decide)) (fun c2 => ?_)
    refine ite_all (p := fun x => (x.2 = 0 ∧ x.1.Ok ∧ x.1.begun = l.begun) ∨ (x.2 ≠ 0 ∧ x.1 = Led.zero)) (fun _ => hz _ (by decide)) (fun c3 => ?_)
    simp [Led.bgB] at c1
    exact .inl ⟨rfl, ok_open h a.bag (by omega) (by simpa using c2) (by omega), rfl⟩
  refine ite_all (p := fun x => (x.2 = 0 ∧ x.1.Ok ∧ x.1.begun = l.begun) ∨ (x.2 ≠ 0 ∧ x.1 = Led.zero)) (fun _ => ?_) (fun _ => ?_)
  · refine ite_all (p := fun x => (x.2 = 0 ∧ x.1.Ok ∧ x.1.begun = l.begun) ∨ (x.2 ≠ 0 ∧ x.1 = Led.zero)) (fun _ => hz _ (by decide)) (fun c1 => ?_)
    refine ite_all (p := fun x => (x.2 = 0 ∧ x.1.Ok ∧ x.1.begun = l.begun) ∨ (x.2 ≠ 0 ∧ x.1 = Led.zero)) (fun _ => hz _ (by decide)) (fun c2 => ?_)
    refine ite_all (p := fun x => (x.2 = 0 ∧ x.1.Ok ∧ x.1.begun = l.begun) ∨ (x.2 ≠ 0 ∧ x.1 = Led.zero)) (fun _ => hz _ (by decide)) (fun c3 => ?_)
    simp [Act.amB] at c1
    refine .inl ⟨rfl, h.money rfl rfl rfl h.w (by simp only; omega) (by simp only; omega) rfl hi ht ?_, rfl⟩
    unfold Led.total at *
    simp only at *
    omega
  refine ite_all (p := fun x => (x.2 = 0 ∧ x.1.Ok ∧ x.1.begun = l.begun) ∨ (x.2 ≠ 0 ∧ x.1 = Led.zero)) (fun _ => ?_) (fun _ => hz _ (by decide))
  refine ite_all (p := fun x => (x.2 = 0 ∧ x.1.Ok ∧ x.1.begun = l.begun) ∨ (x.2 ≠ 0 ∧ x.1 = Led.zero)) (fun _ => hz _ (by decide)) (fun c1 => ?_)
  refine ite_all (p := fun x => (x.2 = 0 ∧ x.1.Ok ∧ x.1.begun = l.begun) ∨ (x.2 ≠ 0 ∧ x.1 = Led.zero)) (fun _ => hz _ (by decide)) (fun c2 => ?_)
  refine ite_all (p := fun x => (x.2 = 0 ∧ x.1.Ok ∧ x.1.begun = l.begun) ∨ (x.2 ≠ 0 ∧ x.1 = Led.zero)) (fun _ => hz _ (by decide)) (fun c3 => ?_)
  simp [Act.amB] at c1
  refine .inl ⟨rfl, h.money rfl rfl rfl h.w ho (by simp only; omega) rfl hi (by simp only; omega) ?_, rfl⟩
  unfold Led.total at *
  simp only at *
  omega
end Go.Pu
