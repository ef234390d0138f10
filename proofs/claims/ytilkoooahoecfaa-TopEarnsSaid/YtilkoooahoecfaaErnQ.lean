/- What a season earns, and what its week pays, as plain data. -/
import Derived.Test.YtilkoooahoecfaaErnP
import Derived.Test.YtilkoooahoecfaaPlnA
namespace Go.Er
open Go.Pl Go.Pu
def nE (s : StE) : Nat := (s.lst - s.fst + 1).toNat
def atE (l : List StE) : Nat → Int
  | 0 => 0
  | k + 1 => (l.getD k default).town
def twE (t : TrV) (i : Int) : TwE := (t.tw.getD i.toNat default).x
def costE (t : TrV) (i k : Int) : Int := ((t.lg.getD i.toNat default).l.getD k.toNat (0, 0)).2
def tkE (t : TrV) (s : StE) : Int := takeE (twE t s.town) s.fst (nE s)
def rentE (t : TrV) (s : StE) : Int := nE s * (twE t s.town).rent
def profE (t : TrV) (l : List StE) : Nat → Int
  | 0 => 0
  | k + 1 => profE t l k + (tkE t (l.getD k default) - rentE t (l.getD k default) - costE t (atE l k) (l.getD k default).town)
def outE (t : TrV) (l : List StE) : Nat → Int
  | 0 => 0
  | k + 1 => outE t l k + rentE t (l.getD k default) + costE t (atE l k) (l.getD k default).town
def sumE (t : TrV) (l : List StE) : Nat → Int
  | 0 => 0
  | k + 1 => sumE t l k + tkE t (l.getD k default)
theorem prof_eq (t : TrV) (l : List StE) : ∀ k, profE t l k = sumE t l k - outE t l k
  | 0 => by simp [profE, sumE, outE]
  | k + 1 => by
    have := prof_eq t l k
    unfold profE sumE outE
    omega
structure StopOk (t : TrV) (s : StE) : Prop where
  town : 1 ≤ s.town ∧ s.town < t.tw.length
  fst : 0 ≤ s.fst ∧ s.fst ≤ s.lst
  lst : s.lst ≤ t.days - 1
  n : s.lst - s.fst ≤ 9
theorem StopOk.tw {t : TrV} {s : StE} (h : StopOk t s) (ht : TrOk t) : TownOk (twE t s.town) t.days := by
  have h1 := h.town
  unfold twE
  exact ht.town _ (by omega) (by omega)
theorem StopOk.n10 {t : TrV} {s : StE} (h : StopOk t s) : nE s ≤ 10 := by
  have := h.n
  unfold nE
  omega
theorem StopOk.tk {t : TrV} {s : StE} (h : StopOk t s) (ht : TrOk t) : 0 ≤ tkE t s ∧ tkE t s ≤ 10000000 := by
  have h1 := takeE_bd (h.tw ht) s.fst (nE s)
  have h2 := h.n10
  unfold tkE
  omega
theorem StopOk.rent {t : TrV} {s : StE} (h : StopOk t s) (ht : TrOk t) : 0 ≤ rentE t s ∧ rentE t s ≤ 10000000 := by
  have h1 := (h.tw ht).rent
  have h2 := h.n10
  unfold rentE
  generalize (twE t s.town).rent = r at *
  have h3 : (nE s : Int) * r ≤ (nE s : Int) * 1000000 := Int.mul_le_mul_of_nonneg_left h1.2 (by omega)
  have h4 : 0 ≤ (nE s : Int) * r := Int.mul_nonneg (by omega) h1.1
  omega
theorem cost_bd {t : TrV} (ht : TrOk t) {i k : Int} (hi : 0 ≤ i ∧ i < t.tw.length) (hk : 0 ≤ k ∧ k < t.tw.length) : 0 ≤ costE t i k ∧ costE t i k ≤ 1000000 := by
  have h := ht.leg i.toNat k.toNat (by omega) (by omega)
  unfold costE
  exact ⟨h.2.2.1, h.2.2.2⟩
def SeasonOk (t : TrV) (l : List StE) : Prop := ∀ s ∈ l, StopOk t s
theorem SeasonOk.at {t : TrV} {l : List StE} (h : SeasonOk t l) {k : Nat} (hk : k < l.length) : StopOk t (l.getD k default) := by
  rw [List.getD_eq_getElem?_getD, List.getElem?_eq_getElem hk]
  exact h _ (List.getElem_mem hk)
theorem SeasonOk.atE {t : TrV} {l : List StE} (h : SeasonOk t l) (ht : TrOk t) : ∀ {k : Nat}, k ≤ l.length → 0 ≤ atE l k ∧ atE l k < t.tw.length
  | 0, _ => by
    have := ht.n2
    show 0 ≤ (0 : Int) ∧ (0 : Int) < _
    omega
  | k + 1, hk => by
    have := (h.at (show k < l.length by omega)).town
    show 0 ≤ (l.getD k default).town ∧ (l.getD k default).town < _
    omega
theorem SeasonOk.out {t : TrV} {l : List StE} (h : SeasonOk t l) (ht : TrOk t) : ∀ {k : Nat}, k ≤ l.length → 0 ≤ outE t l k ∧ outE t l k ≤ 11000000 * k
  | 0, _ => by simp [outE]
  | k + 1, hk => by
    have h1 := h.out ht (show k ≤ l.length by omega)
    have h2 := (h.at (show k < l.length by omega))
    have h3 := h2.rent ht
    have h4 := cost_bd ht (h.atE ht (show k ≤ l.length by omega)) (k := (l.getD k default).town) ⟨by have := h2.town; omega, h2.town.2⟩
    unfold outE
    omega
theorem SeasonOk.sum {t : TrV} {l : List StE} (h : SeasonOk t l) (ht : TrOk t) : ∀ {k : Nat}, k ≤ l.length → 0 ≤ sumE t l k ∧ sumE t l k ≤ 10000000 * k
  | 0, _ => by simp [sumE]
  | k + 1, hk => by
    have h1 := h.sum ht (show k ≤ l.length by omega)
    have h2 := ((h.at (show k < l.length by omega))).tk ht
    unfold sumE
    omega
/-- what is left of a season -/
def netE (t : TrV) (l : List StE) : Int := profE t l l.length - costE t (atE l l.length) 0
def wageE (t : TrV) (l : List StE) : Int := outE t l l.length + costE t (atE l l.length) 0
def ctyE (t : TrV) (s : StE) : Cty := ⟨tkE t s, 1, 1, 0⟩
def weekE (t : TrV) (l : List StE) : Wk := ⟨l.map (ctyE t), 0, [⟨0, wageE t l, 0⟩]⟩
theorem wage_bd {t : TrV} {l : List StE} (h : SeasonOk t l) (ht : TrOk t) (hl : l.length ≤ 8) : 0 ≤ wageE t l ∧ wageE t l ≤ 100000000 := by
  have h1 := h.out ht (Nat.le_refl l.length)
  have h2 := cost_bd ht (h.atE ht (Nat.le_refl l.length)) (k := 0) ⟨by omega, by have := ht.n2; omega⟩
  unfold wageE
  omega
theorem gross_E (t : TrV) (s : StE) : (ctyE t s).gross = tkE t s := by
  unfold ctyE Cty.gross
  simp
theorem taxes_E (t : TrV) (s : StE) : (ctyE t s).taxes = 0 := by
  unfold Cty.taxes
  simp [ctyE]
theorem sum_take (t : TrV) : ∀ (l : List StE) (k : Nat), k ≤ l.length → isum ((l.take k).map (tkE t)) = sumE t l k
  | l, 0, _ => by simp [sumE, isum]
  | l, k + 1, hk => by
    have h1 := sum_take t l k (by omega)
    have h2 : l.getD k default = l[k]'(by omega) := by rw [List.getD_eq_getElem?_getD, List.getElem?_eq_getElem (by omega)]; rfl
    rw [List.take_succ_eq_append_getElem (show k < l.length by omega)]
    unfold sumE
    rw [← h1, h2, List.map_append, isum_append]
    simp only [List.map_cons, List.map_nil, isum]
    omega
theorem week_ok {t : TrV} {l : List StE} (h : SeasonOk t l) (ht : TrOk t) (h1 : 1 ≤ l.length) (h8 : l.length ≤ 8) : (weekE t l).okB = true := by
  have hw := wage_bd h ht h8
  unfold Wk.okB weekE
  simp only [Bool.and_eq_true, decide_eq_true_eq, List.length_map, List.all_map, List.all_eq_true, List.length_cons, List.length_nil]
  refine ⟨⟨h1, h8⟩, fun s hs => ?_, by omega, by omega, ?_, ?_⟩
  · have := (h s hs).tk ht
    show ctyB (ctyE t s) = true
    unfold ctyB ctyE
    simp only [Bool.and_eq_true, decide_eq_true_eq]
    omega
  · intro c hc
    simp at hc
    subst hc
    unfold ctrB
    simp only [Bool.and_eq_true, decide_eq_true_eq]
    omega
  · simp [isum]
theorem isum_zero : ∀ l : List StE, isum (l.map fun _ => (0 : Int)) = 0
  | [] => rfl
  | _ :: l => by
    have := isum_zero l
    simp only [List.map_cons, isum]
    omega
theorem week_pot (t : TrV) (l : List StE) : (weekE t l).pot = sumE t l l.length := by
  have h1 := sum_take t l l.length (Nat.le_refl _)
  rw [List.take_length] at h1
  have h2 : ((weekE t l).ctys.map Cty.gross) = l.map (tkE t) := by
    unfold weekE
    rw [List.map_map]
    exact List.map_congr_left fun s _ => gross_E t s
  have h3 : isum ((weekE t l).ctys.map Cty.taxes) = 0 := by
    have : ((weekE t l).ctys.map Cty.taxes) = l.map (fun _ => (0 : Int)) := by
      unfold weekE
      rw [List.map_map]
      exact List.map_congr_left fun s _ => taxes_E t s
    rw [this]
    exact isum_zero l

  unfold Wk.pot
  rw [h2, h3, h1]
  omega
theorem week_pay {t : TrV} {l : List StE} (h : SeasonOk t l) (ht : TrOk t) (h8 : l.length ≤ 8) : (weekE t l).settle.rest = max 0 (netE t l) ∧ (weekE t l).settle.short = [max 0 (- netE t l)] := by
  have hw := wage_bd h ht h8
  have hs := h.sum ht (Nat.le_refl l.length)
  have hp := week_pot t l
  have hq : (weekE t l).prem = 0 := by
    unfold Wk.prem
    rw [hp]
    simp only [weekE]
    omega
  have ho : (weekE t l).order = [0] := by
    unfold Wk.order
    simp only [weekE, List.length_cons, List.length_nil]
    rfl
  have hn : (weekE t l).ctrs.length = 1 := rfl
  have hc : ctr (weekE t l) 0 = ⟨0, wageE t l, 0⟩ := rfl
  have hpd : (weekE t l).paidTo 1 = payOne (weekE t l) (sumE t l l.length - 0, fun _ => 0) 0 := by
    unfold Wk.paidTo
    rw [ho, hp, hq]
    rfl
  have hnet : netE t l = sumE t l l.length - wageE t l := by
    have := prof_eq t l l.length
    unfold netE wageE
    omega
  have hleft : (weekE t l).left = sumE t l l.length - min (sumE t l l.length) (wageE t l) := by
    unfold Wk.left
    rw [hn, hpd]
    unfold payOne
    rw [hc]
    simp
  have hpaid : (weekE t l).paid 0 = min (sumE t l l.length) (wageE t l) := by
    unfold Wk.paid
    rw [hn, hpd]
    unfold payOne
    rw [hc]
    simp [upd]
  have hex : (weekE t l).extra 0 = 0 := by
    unfold Wk.extra
    rw [hc]
    simp
  constructor
  · unfold Wk.settle
    simp only [hn]
    rw [show tab 1 (weekE t l).extra = [(weekE t l).extra 0] from rfl, hex, hleft, hnet]
    simp [isum]
    omega
  · unfold Wk.settle
    simp only [hn]
    rw [show tab 1 (fun i => (ctr (weekE t l) i).wage - (weekE t l).paid i) = [(ctr (weekE t l) 0).wage - (weekE t l).paid 0] from rfl, hpaid, hc, hnet]
    simp only [List.cons.injEq, and_true]
    omega
end Go.Er
