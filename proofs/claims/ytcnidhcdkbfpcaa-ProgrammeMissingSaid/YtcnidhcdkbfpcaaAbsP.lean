/- Plain: the show without a person is valid; what becomes of an evening. -/
import Derived.Test.YtcnidhcdkbfpcaaPrlR
namespace Go.Pg.Sh
variable {s : Sh} {p : Nat}
theorem keptTo_mem {i n : Nat} : i ∈ s.keptTo p n ↔ i < n ∧ s.kepB p i = true := by unfold keptTo; simp
theorem keptTo_lt {i : Nat} (hi : s.kepB p i = true) : ∀ j, i < j → (s.keptTo p i).length < (s.keptTo p j).length
  | 0, h => by omega
  | j + 1, h => by
    rw [keptTo_succ]
    rcases Nat.lt_or_ge i j with h1 | h1
    · have := keptTo_lt hi j h1
      split
      · simp; omega
      · exact this
    · obtain rfl : i = j := by omega
      rw [if_pos hi]; simp
theorem newI_kep {i : Nat} (h : 0 ≤ s.newI p i) : s.kepB p i = true := by
  unfold newI at h
  split at h
  · assumption
  · omega
theorem ok_lessW (hok : s.Ok) (hk : s.keptTo p s.acts.length ≠ []) : (s.lessW p).Ok := by
  have hlen : (s.lessW p).acts.length = (s.keptTo p s.acts.length).length := by unfold lessW; simp
  have hle := keptTo_le (s := s) (p := p) s.acts.length
  have h8 := hok.n8
  have hpos : 0 < (s.keptTo p s.acts.length).length := List.length_pos_iff.2 hk
  have hbl := befTo_le (s := s) (p := p) s.before.length
  have h20 := hok.b20
  refine ⟨by omega, by omega, hok.r16, hok.rest, hok.i10, hok.oi, hok.ins, hok.outs, hok.cover, hok.dull, by show (s.befTo p s.before.length).length ≤ 20; omega, ?_, ?_⟩
  · intro a ha
    obtain ⟨i, hi, rfl⟩ := List.mem_map.1 ha
    obtain ⟨hin, hik⟩ := keptTo_mem.1 hi
    have hst := hok.acts (s.act i) (by rw [act_eq hin]; exact List.getElem_mem hin)
    unfold staged at hst ⊢
    unfold kepB at hik
    simp only [Bool.and_eq_true, btw_iff, List.all_eq_true, decide_eq_true_eq] at hst hik ⊢
    obtain ⟨⟨⟨⟨h1, h2⟩, h3⟩, h4⟩, h5⟩ := hst
    have hcl : (s.castsW p i).length ≤ (s.act i).casts.length := List.length_filter_le _ _
    refine ⟨⟨⟨⟨h1, h2⟩, h3⟩, ?_, ?_⟩, fun c hc => h5 c (List.mem_filter.1 hc).1⟩
    · show (1 : Int) ≤ ((s.castsW p i).length : Nat); omega
    · show ((s.castsW p i).length : Int) ≤ 4; omega
  · intro x hx
    obtain ⟨y, hy, hyx⟩ := List.mem_filterMap.1 hx
    rw [List.take_length] at hy
    unfold pairW at hyx
    split at hyx
    · rename_i h
      cases hyx
      have hpy := hok.before y hy
      unfold pairB at hpy ⊢
      simp only [Bool.and_eq_true, btw_iff, decide_eq_true_eq] at hpy ⊢
      obtain ⟨⟨⟨a1, a2⟩, b1, b2⟩, hne⟩ := hpy
      have ka := newI_kep h.1
      have kb := newI_kep h.2
      have la := keptTo_lt ka s.acts.length (by omega)
      have lb := keptTo_lt kb s.acts.length (by omega)
      have ea : s.newI p y.1.toNat = (s.keptTo p y.1.toNat).length := by unfold newI; rw [if_pos ka]
      have eb : s.newI p y.2.toNat = (s.keptTo p y.2.toNat).length := by unfold newI; rw [if_pos kb]
      rw [hlen]
      refine ⟨⟨⟨h.1, by omega⟩, h.2, by omega⟩, ?_⟩
      rw [ea, eb]
      intro e
      rcases Nat.lt_trichotomy y.1.toNat y.2.toNat with h1 | h1 | h1
      · have := keptTo_lt ka _ h1; omega
      · omega
      · have := keptTo_lt kb _ h1; omega
    · cases hyx
/-- what becomes of an evening without a person: the exception, the dark, the order by old indexes -/
def misE (s : Sh) (p : Nat) : Int := match s.excep p with
  | some i => i
  | none => -1
def misQ (s : Sh) (p : Nat) : Option (List Nat) := if s.keptTo p s.acts.length = [] then none else (s.lessW p).solve
def misD (s : Sh) (p : Nat) : Bool := match s.excep p with
  | some _ => false
  | none => (s.misQ p).isNone
def old (s : Sh) (p : Nat) (q : List Nat) : List Nat := q.map fun k => (s.keptTo p s.acts.length).getD k 0
def misL (s : Sh) (p : Nat) : List Nat := match s.excep p with
  | some _ => []
  | none => s.old p ((s.misQ p).getD [])
theorem misQ_bd (hok : s.Ok) {q : List Nat} (h : s.misQ p = some q) : q.length = (s.keptTo p s.acts.length).length ∧ ∀ x ∈ q, x < (s.keptTo p s.acts.length).length := by
  unfold misQ at h
  split at h
  · cases h
  · rename_i hk
    have ho := ok_lessW hok hk
    have hm := (solve_some ho h).1
    have hlen : (s.lessW p).acts.length = (s.keptTo p s.acts.length).length := by unfold lessW; simp
    rw [← hlen]
    have := (progs_iff ho).1 hm
    exact ⟨progs_len ho hm, (isOrd_iff.1 this.1).2.1⟩
end Go.Pg.Sh
