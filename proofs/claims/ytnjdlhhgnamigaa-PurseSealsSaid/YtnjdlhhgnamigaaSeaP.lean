/- Plain law: what is taken from bags, and what their differences say. -/
import Derived.Test.YtnjdlhhgnamigaaCoiP
import Derived.Test.YtnjdlhhgnamigaaLgnA
namespace Go.Pu
open Go.Pl
/-- what an act does to bags and differences -/
inductive Shape (l : Led) (a : Act) (m : Led) : Prop where
  | money (h4 : a.kind ≠ 4) (h5 : a.kind ≠ 5) (hw : m.windows.length = l.windows.length) (hb : m.bags = l.bags) (hd : m.diffs = l.diffs)
  | pack (h4 : a.kind = 4) (hw : m.windows.length = l.windows.length) (hb : m.bags = l.bags ++ [⟨a.window, a.sl, a.written, a.amount, a.sl, false⟩]) (hd : m.diffs = l.diffs)
  | touch (h5 : a.kind = 5) (hw : m.windows.length = l.windows.length) (hi : 0 ≤ a.bag ∧ a.bag ≤ (l.bags.length : Int) - 1) (ho : (l.bg a.bag).opened = false) (ha : 0 ≤ a.amount ∧ a.amount ≤ 1000000000000) (hs : a.sl ≠ (l.bg a.bag).sl)
      (hb : m.bags = l.bags.set a.bag.toNat { l.bg a.bag with holds := (l.bg a.bag).holds - a.amount, now := a.sl }) (hd : m.diffs = l.diffs)
  | opn (h4 : a.kind ≠ 4) (h5 : a.kind ≠ 5) (hw : m.windows.length = l.windows.length) (hi : 0 ≤ a.bag ∧ a.bag ≤ (l.bags.length : Int) - 1) (ho : (l.bg a.bag).opened = false) (hb : m.bags = l.bags.set a.bag.toNat { l.bg a.bag with holds := 0, opened := true })
      (hd : m.diffs = if (l.bg a.bag).holds != (l.bg a.bag).written || (l.bg a.bag).broken then l.diffs ++ [⟨a.bag, (l.bg a.bag).written - (l.bg a.bag).holds, (l.bg a.bag).broken⟩] else l.diffs)
theorem ite_imp {c : Prop} [Decidable c] {p : Led → Prop} {x y : Led × Int} (hx : c → x.2 = 0 → p x.1) (hy : ¬ c → y.2 = 0 → p y.1) : (if c then x else y).2 = 0 → p (if c then x else y).1 := by
  by_cases h : c
  · rw [if_pos h]; exact hx h
  · rw [if_neg h]; exact hy h
theorem doL_shape (l : Led) (a : Act) : (doL l a).2 = 0 → Shape l a (doL l a).1 := by
  unfold doL
  refine ite_imp (fun k => ?_) (fun k1 => ?_)
  · refine ite_imp (fun _ h => by cases h) (fun _ => ite_imp (fun _ h => by cases h) (fun _ => ite_imp (fun _ h => by cases h) (fun _ _ => .money (by omega) (by omega) (by simp [Led.addW]) rfl rfl)))
  refine ite_imp (fun k => ?_) (fun k2 => ?_)
  · refine ite_imp (fun _ h => by cases h) (fun _ => ite_imp (fun _ h => by cases h) (fun _ => ite_imp (fun _ h => by cases h) (fun _ _ => .money (by omega) (by omega) (by simp [Led.addW]) rfl rfl)))
  refine ite_imp (fun k => ?_) (fun k3 => ?_)
  · refine ite_imp (fun _ h => by cases h) (fun _ => ite_imp (fun _ h => by cases h) (fun _ => ite_imp (fun _ h => by cases h) (fun _ _ => .money (by omega) (by omega) (by simp [Led.addW]) rfl rfl)))
  refine ite_imp (fun k => ?_) (fun k4 => ?_)
  · refine ite_imp (fun _ h => by cases h) (fun _ => ite_imp (fun _ h => by cases h) (fun _ => ite_imp (fun _ h => by cases h) (fun _ => ite_imp (fun _ h => by cases h) (fun _ _ => .pack k (by simp [Led.addW]) rfl rfl))))
  refine ite_imp (fun k => ?_) (fun k5 => ?_)
  · refine ite_imp (fun _ h => by cases h) (fun c1 => ite_imp (fun _ h => by cases h) (fun c2 => ite_imp (fun _ h => by cases h) (fun c3 => ite_imp (fun _ h => by cases h) (fun _ => ite_imp (fun _ h => by cases h) (fun _ _ => ?_)))))
    simp [Led.bgB, sealB, monB] at c1
    have hi : 0 ≤ a.bag ∧ a.bag ≤ (l.bags.length : Int) - 1 := by omega
    refine .touch k rfl hi (by simpa using c2) (by omega) ?_ rfl rfl
    have hn2 := sealed_false.1 (show l.sealed a.sl (-1) = false by simpa using c3) a.bag.toNat (by omega) (by omega)
    rw [bg_get hi (by omega)]
    unfold Bag.has at hn2
    simp only [Bool.or_eq_false_iff, beq_eq_false_iff_ne, ne_eq] at hn2
    omega
  refine ite_imp (fun k => ?_) (fun k6 => ?_)
  · refine ite_imp (fun _ h => by cases h) (fun c1 => ite_imp (fun _ h => by cases h) (fun c2 => ite_imp (fun _ h => by cases h) (fun c3 _ => ?_)))
    simp [Led.bgB] at c1
    exact .opn (by omega) (by omega) rfl (by omega) (by simpa using c2) rfl rfl
  refine ite_imp (fun k => ?_) (fun k7 => ?_)
  · refine ite_imp (fun _ h => by cases h) (fun _ => ite_imp (fun _ h => by cases h) (fun _ => ite_imp (fun _ h => by cases h) (fun _ _ => .money (by omega) (by omega) rfl rfl rfl)))
  refine ite_imp (fun k => ?_) (fun _ h => by cases h)
  refine ite_imp (fun _ h => by cases h) (fun _ => ite_imp (fun _ h => by cases h) (fun _ => ite_imp (fun _ h => by cases h) (fun _ _ => .money (by omega) (by omega) rfl rfl rfl)))
/-- what was taken from the bags that are open -/
def opT (bags : List Bag) (tk : List Int) : Int := isum (List.zipWith (fun b t => if b.opened then t else 0) bags tk)
structure Sea where
  l : Led
  tk : List Int
def Sea.step (s : Sea) (a : Act) : Sea :=
  if (doL s.l a).2 = 0 then ⟨(doL s.l a).1, if a.kind = 4 then s.tk ++ [0] else if a.kind = 5 then s.tk.set a.bag.toNat (s.tk.getD a.bag.toNat 0 + a.amount) else s.tk⟩ else s
structure SInv (hon : Bool) (n0 K : Nat) (s : Sea) : Prop where
  ok : s.l.Ok
  wn : s.l.windows.length = n0
  nk : s.tk.length = s.l.bags.length
  bd : ∀ t ∈ s.tk, 0 ≤ t ∧ t ≤ (K : Int) * 1000000000000
  hn : hon = true → ∀ i (h : i < s.l.bags.length), s.l.bags[i].opened = false → s.l.bags[i].written = s.l.bags[i].holds + s.tk.getD i 0
  sm : hon = true → isum (s.l.diffs.map Dif.less) = opT s.l.bags s.tk
theorem zip_set {f : Bag → Int → Int} : ∀ (bs : List Bag) (ts : List Int) (i : Nat) (b : Bag) (t : Int), List.zipWith f (bs.set i b) (ts.set i t) = (List.zipWith f bs ts).set i (f b t)
  | [], ts, i, b, t => by simp
  | x :: bs, [], i, b, t => by simp
  | x :: bs, y :: ts, 0, b, t => by simp
  | x :: bs, y :: ts, i + 1, b, t => by simp [zip_set bs ts i b t]
theorem zip_get {f : Bag → Int → Int} {bs : List Bag} {ts : List Int} {i : Nat} (h1 : i < bs.length) (h2 : i < ts.length) : (List.zipWith f bs ts).getD i 0 = f (bs.getD i default) (ts.getD i 0) := by
  simp [List.getD_eq_getElem?_getD, List.getElem?_zipWith, List.getElem?_eq_getElem h1, List.getElem?_eq_getElem h2]
theorem set_same (ts : List Int) (i : Nat) : ts.set i (ts.getD i 0) = ts := by
  apply List.ext_getElem?
  intro j
  by_cases h : i = j
  · subst h
    by_cases hl : i < ts.length
    · rw [List.getElem?_set_self hl, List.getD_eq_getElem?_getD, List.getElem?_eq_getElem hl]; rfl
    · rw [List.getElem?_eq_none (by simp; omega), List.getElem?_eq_none (by omega)]
  · rw [List.getElem?_set_ne h]
theorem opT_set {bs : List Bag} {ts : List Int} {i : Nat} (hl : ts.length = bs.length) (hi : i < bs.length) (b : Bag) (t : Int) :
    opT (bs.set i b) (ts.set i t) = opT bs ts + ((if b.opened then t else 0) - (if (bs.getD i default).opened then ts.getD i 0 else 0)) := by
  unfold opT
  rw [zip_set, isum_set _ _ _ (by simp; omega), zip_get hi (by omega)]
theorem bd_up {K : Nat} {t : Int} (h : 0 ≤ t ∧ t ≤ (K : Int) * 1000000000000) : 0 ≤ t ∧ t ≤ ((K + 1 : Nat) : Int) * 1000000000000 := by omega
theorem tk_get {K : Nat} {ts : List Int} (h : ∀ t ∈ ts, 0 ≤ t ∧ t ≤ (K : Int) * 1000000000000) (i : Nat) : 0 ≤ ts.getD i 0 ∧ ts.getD i 0 ≤ (K : Int) * 1000000000000 := by
  by_cases hi : i < ts.length
  · rw [List.getD_eq_getElem?_getD, List.getElem?_eq_getElem hi]; exact h _ (List.getElem_mem hi)
  · rw [List.getD_eq_getElem?_getD, List.getElem?_eq_none (by omega)]; simp; omega
theorem step_inv {hon : Bool} {n0 K : Nat} {s : Sea} (h : SInv hon n0 K s) (a : Act) (ha : hon = true → a.written = a.amount) : SInv hon n0 (K + 1) (s.step a) := by
  obtain ⟨l, tk⟩ := s
  obtain ⟨ok, wn, nk, bd, hn, sm⟩ := h
  simp only at ok wn nk bd hn sm
  unfold Sea.step
  by_cases he : (doL l a).2 = 0
  case neg => simp only [he, if_false]; exact ⟨ok, wn, nk, fun t ht => bd_up (bd t ht), hn, sm⟩
  have hok : (doL l a).1.Ok := by
    rcases doL_ok ok a with ⟨-, h, -⟩ | ⟨h, -⟩
    · exact h
    · exact absurd he h
  have hsh := doL_shape l a he
  simp only [he, if_true]
  generalize (doL l a).1 = m at *
  rcases hsh with ⟨h4, h5, hw, hb, hd⟩ | ⟨h4, hw, hb, hd⟩ | ⟨h5, hw, hi, ho, ha2, hs, hb, hd⟩ | ⟨h4, h5, hw, hi, ho, hb, hd⟩
  · simp only [h4, h5, if_false]
    exact ⟨hok, hw.trans wn, by simp only [hb]; exact nk, fun t ht => bd_up (bd t ht), by simp only [hb]; exact hn, by simp only [hb, hd]; exact sm⟩
  · simp only [h4, if_true]
    refine ⟨hok, hw.trans wn, by simp only [hb]; simp; omega, fun t ht => ?_, fun hh i hi ho => ?_, fun hh => ?_⟩
    · rcases List.mem_append.1 ht with h | h
      · exact bd_up (bd t h)
      · simp at h; subst h; omega
    · simp only [hb, List.length_append, List.length_singleton] at hi
      simp only [hb] at ho ⊢
      by_cases hl : i < l.bags.length
      · simp only [List.getElem_append_left hl] at ho ⊢
        rw [hn hh i hl ho]
        simp [List.getD_eq_getElem?_getD, List.getElem?_append_left (show i < tk.length by omega)]
      · obtain rfl : i = l.bags.length := by omega
        simp only [List.getElem_concat_length]
        rw [List.getD_eq_getElem?_getD, List.getElem?_append_right (by omega), nk]
        simp [ha hh]
    · simp only [hb, hd]
      rw [sm hh]
      unfold opT
      rw [List.zipWith_append (by omega), isum_append]
      simp [isum]
  · have h4 : a.kind ≠ 4 := by omega
    have hl : a.bag.toNat < l.bags.length := by omega
    have hbg : l.bags.getD a.bag.toNat default = l.bg a.bag := rfl
    have e54 : ¬ (5 : Int) = 4 := by decide
    simp only [h5, e54, if_true, if_false]
    refine ⟨hok, hw.trans wn, by simp only [hb]; simp; omega, fun t ht => ?_, fun hh i hi2 ho2 => ?_, fun hh => ?_⟩
    · rcases List.mem_or_eq_of_mem_set ht with h | rfl
      · exact bd_up (bd t h)
      · have := tk_get bd a.bag.toNat; omega
    · simp only [hb, List.length_set] at hi2
      simp only [hb] at ho2 ⊢
      by_cases hie : a.bag.toNat = i
      · subst hie
        simp only [List.getElem_set_self]
        have := hn hh a.bag.toNat hl (by rw [← bg_get hi hl]; exact ho)
        rw [← bg_get hi hl] at this
        rw [List.getD_eq_getElem?_getD, List.getElem?_set_self (by omega)]
        simp only [Option.getD_some]
        omega
      · simp only [List.getElem_set_ne hie] at ho2 ⊢
        rw [hn hh i hi2 ho2]
        simp [List.getD_eq_getElem?_getD, List.getElem?_set_ne hie]
    · simp only [hb, hd]
      rw [sm hh, opT_set nk hl, hbg]
      simp [ho]
  · have hl : a.bag.toNat < l.bags.length := by omega
    have hbg : l.bags.getD a.bag.toNat default = l.bg a.bag := rfl
    simp only [h4, h5, if_false]
    refine ⟨hok, hw.trans wn, by simp only [hb]; simp; omega, fun t ht => bd_up (bd t ht), fun hh i hi2 ho2 => ?_, fun hh => ?_⟩
    · simp only [hb, List.length_set] at hi2
      simp only [hb] at ho2 ⊢
      by_cases hie : a.bag.toNat = i
      · subst hie
        simp only [List.getElem_set_self] at ho2
        cases ho2
      · simp only [List.getElem_set_ne hie] at ho2 ⊢
        exact hn hh i hi2 ho2
    · have h1 := hn hh a.bag.toNat hl (by rw [← bg_get hi hl]; exact ho)
      rw [← bg_get hi hl] at h1
      have e1 := opT_set nk hl { l.bg a.bag with holds := 0, opened := true } (tk.getD a.bag.toNat 0)
      rw [set_same, hbg] at e1
      simp only [ho, if_true, Bool.false_eq_true, if_false] at e1
      simp only [hb]
      rw [e1, ← sm hh, hd]
      by_cases hc : ((l.bg a.bag).holds != (l.bg a.bag).written || (l.bg a.bag).broken) = true
      · simp only [hc, if_true, List.map_append, List.map_cons, List.map_nil, isum_append, isum]
        omega
      · rw [if_neg hc]
        simp only [Bool.or_eq_true, bne_iff_ne, ne_eq, not_or, Decidable.not_not] at hc
        omega
theorem broken_step {l : Led} {a : Act} (he : (doL l a).2 = 0) : (doL l a).1.bags.map Bag.broken = if a.kind = 4 then l.bags.map Bag.broken ++ [false] else if a.kind = 5 then (l.bags.map Bag.broken).set a.bag.toNat true else l.bags.map Bag.broken := by
  rcases doL_shape l a he with ⟨h4, h5, hw, hb, hd⟩ | ⟨h4, hw, hb, hd⟩ | ⟨h5, hw, hi, ho, ha2, hs, hb, hd⟩ | ⟨h4, h5, hw, hi, ho, hb, hd⟩
  · rw [if_neg h4, if_neg h5, hb]
  · rw [if_pos h4, hb, List.map_append]
    simp [Bag.broken]
  · rw [if_neg (by omega), if_pos h5, hb, List.map_set]
    congr 1
    simpa [Bag.broken] using hs
  · rw [if_neg h4, if_neg h5, hb, List.map_set]
    have hl : a.bag.toNat < l.bags.length := by omega
    apply List.ext_getElem?
    intro j
    by_cases hj : a.bag.toNat = j
    · subst hj
      rw [List.getElem?_set_self (by simpa using hl), List.getElem?_map, List.getElem?_eq_getElem hl]
      simp only [Option.map_some]
      rw [← bg_get hi hl]; rfl
    · rw [List.getElem?_set_ne hj]
theorem touch_in {l : Led} {a : Act} (he : (doL l a).2 = 0) (h5 : a.kind = 5) : 0 ≤ a.bag ∧ a.bag ≤ (l.bags.length : Int) - 1 ∧ 0 ≤ a.amount ∧ a.amount ≤ 1000000000000 := by
  rcases doL_shape l a he with ⟨-, h, -⟩ | ⟨h, -⟩ | ⟨-, -, hi, -, ha, -⟩ | ⟨-, h, -⟩
  · exact absurd h5 h
  · omega
  · omega
  · exact absurd h5 h
/-- the acts, one after the other -/
def seaK (l : Led) (acts : List Act) (j : Nat) : Sea := (acts.take j).foldl Sea.step ⟨l, []⟩
theorem sea_zero (l : Led) (acts : List Act) : seaK l acts 0 = ⟨l, []⟩ := by simp [seaK]
theorem sea_succ (l : Led) {acts : List Act} {j : Nat} (h : j < acts.length) : seaK l acts (j + 1) = (seaK l acts j).step acts[j] := by
  unfold seaK
  rw [List.take_succ_eq_append_getElem h, List.foldl_append]; rfl
theorem sea_inv {l : Led} {hon : Bool} (h : l.Ok) (hb : l.bags = []) (hd : l.diffs = []) (acts : List Act) (ha : hon = true → ∀ a ∈ acts, a.written = a.amount) : ∀ j, j ≤ acts.length → SInv hon l.windows.length j (seaK l acts j)
  | 0, _ => by
    rw [sea_zero]
    exact ⟨h, rfl, by simp [hb], fun t ht => by simp at ht, fun _ i hi => by simp [hb] at hi, fun _ => by simp [hb, hd, opT, isum]⟩
  | j + 1, hj => by
    rw [sea_succ l (by omega)]
    exact step_inv (sea_inv h hb hd acts ha j (by omega)) _ (fun hh => ha hh _ (List.getElem_mem _))
/-- what is missing of the windows below k -/
def Led.misW (l : Led) (k : Nat) : Int := isum ((List.range k).map fun i : Nat => (l.missing (i : Int)).1)
theorem misW_succ (l : Led) (k : Nat) : l.misW (k + 1) = l.misW k + (l.missing (k : Int)).1 := by
  unfold Led.misW
  rw [List.range_succ, List.map_append, isum_append]; simp [isum]
theorem mis_filter (l : Led) : ∀ k : Nat, l.misW k = isum ((l.diffs.filter fun d => decide (0 ≤ (l.bags.getD d.bag.toNat default).window ∧ (l.bags.getD d.bag.toNat default).window < (k : Int))).map Dif.less)
  | 0 => by
    unfold Led.misW
    rw [List.filter_eq_nil_iff.2 (by intro d _; simp only [decide_eq_true_eq]; omega)]; rfl
  | k + 1 => by
    rw [misW_succ, mis_filter l k]
    unfold Led.missing
    simp only
    have key : ∀ ds : List Dif, isum ((ds.filter fun d => decide (0 ≤ (l.bags.getD d.bag.toNat default).window ∧ (l.bags.getD d.bag.toNat default).window < (k : Int))).map Dif.less) + isum ((ds.filter fun d => (l.bags.getD d.bag.toNat default).window == (k : Int)).map Dif.less) =
        isum ((ds.filter fun d => decide (0 ≤ (l.bags.getD d.bag.toNat default).window ∧ (l.bags.getD d.bag.toNat default).window < ((k + 1 : Nat) : Int))).map Dif.less) := by
      intro ds
      induction ds with
      | nil => rfl
      | cons d r ih =>
        simp only [List.filter_cons]
        generalize (l.bags.getD d.bag.toNat default).window = x
        by_cases h1 : x = k
        · subst h1
          simp only [decide_eq_false (show ¬ (0 ≤ (k : Int) ∧ (k : Int) < (k : Int)) by omega), decide_eq_true (show 0 ≤ (k : Int) ∧ (k : Int) < ((k + 1 : Nat) : Int) by omega), beq_self_eq_true, if_true, if_false, Bool.false_eq_true, List.map_cons, isum]
          omega
        · have hb : (x == (k : Int)) = false := by simpa using h1
          by_cases h2 : 0 ≤ x ∧ x < (k : Int)
          · simp only [decide_eq_true h2, decide_eq_true (show 0 ≤ x ∧ x < ((k + 1 : Nat) : Int) by omega), hb, if_true, if_false, Bool.false_eq_true, List.map_cons, isum]
            omega
          · simp only [decide_eq_false h2, decide_eq_false (show ¬ (0 ≤ x ∧ x < ((k + 1 : Nat) : Int)) by omega), hb, if_false, Bool.false_eq_true]
            omega
    exact key l.diffs
theorem misW_all {l : Led} (h : l.Ok) : l.misW l.windows.length = isum (l.diffs.map Dif.less) := by
  rw [mis_filter, List.filter_eq_self.2]
  intro d hd
  have h1 := (h.d d hd).b
  have hl : d.bag.toNat < l.bags.length := by omega
  have h2 := (h.b d.bag.toNat hl).w
  have hg : l.bags.getD d.bag.toNat default = l.bags[d.bag.toNat] := by simp [hl]
  rw [hg]
  simp only [decide_eq_true_eq]; omega
theorem misW_bd {l : Led} (h : l.Ok) : ∀ k : Nat, -(k * 100000000000000 : Int) ≤ l.misW k ∧ l.misW k ≤ (k * 100000000000000 : Int)
  | 0 => by simp [Led.misW, isum]
  | k + 1 => by
    have h1 := misW_bd h k
    rw [misW_succ]
    have h2 := Led.misK_bd (ok_iff.2 h) (k : Int) l.diffs.length (Nat.le_refl _)
    rw [Led.misK_all] at h2
    have h3 := (ok_mon (ok_iff.2 h)).2.1
    have e : ((k + 1 : Nat) : Int) * 100000000000000 = (k : Int) * 100000000000000 + 100000000000000 := by omega
    rw [e]
    omega
end Go.Pu
