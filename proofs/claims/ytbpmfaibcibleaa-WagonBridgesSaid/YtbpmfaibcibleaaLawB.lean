/- More contracts in the form that the laws' walks use. (Printed by mk_lawb.py.) -/
import Derived.Test.YtbpmfaibcibleaaLawA
import Derived.Test.YtbpmfaibcibleaaStoB
namespace Go.Proofs.Ytbpmfaibcibleaa
open Go.RowKit Go.Bs Go.Wg Go.Pl Go.Sort
theorem cut_rows {n : Nat} {rs : List RwV} (h : cutB n (rows rs) = true) (hn : rs.length = n) : rs.length ≤ 10 ∧ (∀ x ∈ rs, x.r.length ≤ 20) ∧ (rows rs).flatten.length ≤ 200 := by
  unfold cutB at h
  simp only [Bool.and_eq_true, decide_eq_true_eq, List.all_eq_true] at h
  have h1 : ∀ x ∈ rs, x.r.length ≤ 20 := fun x hx => h.1 x.r (List.mem_map.2 ⟨x, hx, rfl⟩)
  have key : ∀ l : List RwV, (∀ x ∈ l, x.r.length ≤ 20) → (rows l).flatten.length ≤ l.length * 20 := by
    intro l
    induction l with
    | nil => intro _; simp [rows]
    | cons a l ih =>
      intro H
      have h2 := ih fun x hx => H x (by simp [hx])
      have h3 := H a (by simp)
      unfold rows at h2 ⊢
      simp only [List.map_cons, List.flatten_cons, List.length_append, List.length_cons]
      omega
  have h4 := key rs h1
  have h5 := h.2
  exact ⟨by omega, h1, by omega⟩
theorem flat_of_rows {a b : List RwV} (h : rows a = rows b) {N : Nat} (hb : (rows b).flatten.length ≤ N) : (rows a).flatten.length ≤ N := by rw [h]; exact hb
theorem rightC (A : Option Addr) (c : Nat) (h ca em re ax dk : Int) (l : List Int) (T : Option Addr) (cT : Nat) (ts : List Th) (R : Option Addr) (cR : Nat) (rs : List RwV) (P : List (List Int)) (V : World) (hl : l.length ≤ 1000000) (hm : ts.length ≤ 1000000) (hk : rs.length ≤ 1000000) (hF : (rows rs).flatten.length ≤ 1000000) (hA : Cells V A 1 Go.Bs.encI l) (hT : Cells V T 4 Th.enc ts) (hM : RwM V R rs) (hP : rows rs = P) :
    Calls Try.prog 35 #[.agg #[.slice A l.length c, .int .i64 h, .int .i64 ca, .int .i64 em, .int .i64 re, .int .i64 ax, .int .i64 dk], .slice T ts.length cT, .slice R rs.length cR] V fun e w' => e = .returned (.bool (rightE ⟨l, h, ca, em, re, ax, dk⟩ ts P)) ∧ Below V.heap.size V w' := by
  rw [← hP]
  exact Right_any ⟨⟨⟨l, h, ca, em, re, ax, dk⟩, A, c⟩, T, cT⟩ ts R rs.length cR rs V (by simp only; omega) (by omega) hA hT rfl (by omega) hM hF
theorem loadC (A : Option Addr) (c : Nat) (h ca em re ax dk : Int) (l : List Int) (T : Option Addr) (cT : Nat) (ts : List Th) (R : Option Addr) (cR : Nat) (rs : List RwV) (P : List (List Int)) (V : World) (hl : l.length ≤ 1000000) (hm : ts.length ≤ 1000000) (hk : rs.length ≤ 1000000) (hF : (rows rs).flatten.length ≤ 1000000) (hA : Cells V A 1 Go.Bs.encI l) (hT : Cells V T 4 Th.enc ts) (hM : RwM V R rs) (hP : rows rs = P) :
    Calls Try.prog 39 #[.agg #[.slice A l.length c, .int .i64 h, .int .i64 ca, .int .i64 em, .int .i64 re, .int .i64 ax, .int .i64 dk], .slice T ts.length cT, .slice R rs.length cR] V fun e w' => e = .returned (.bool (loadE ⟨l, h, ca, em, re, ax, dk⟩ ts P)) ∧ Below V.heap.size V w' := by
  rw [← hP]
  exact Loadable_any ⟨⟨⟨l, h, ca, em, re, ax, dk⟩, A, c⟩, T, cT⟩ ts R rs.length cR rs V (by simp only; omega) (by omega) hA hT rfl (by omega) hM hF
theorem checkC (A : Option Addr) (c : Nat) (h ca em re ax dk : Int) (l : List Int) (V : World) (hl : l.length ≤ 1000000) (hA : Cells V A 1 Go.Bs.encI l) :
    Calls Try.prog 50 #[.agg #[.slice A l.length c, .int .i64 h, .int .i64 ca, .int .i64 em, .int .i64 re, .int .i64 ax, .int .i64 dk]] V fun e w' => e = .returned (.int .i64 (if Lo.okB ⟨l, h, ca, em, re, ax, dk⟩ then 0 else 1)) ∧ Below V.heap.size V w' := CheckLorry_any ⟨⟨l, h, ca, em, re, ax, dk⟩, A, c⟩ V (by simp only; omega) hA
theorem axlesC (A : Option Addr) (c : Nat) (h ca em re ax dk : Int) (l : List Int) (T : Option Addr) (cT : Nat) (ts : List Th) (R : Option Addr) (cR : Nat) (rs : List RwV) (P : List (List Int)) (V : World) (hl : l.length ≤ 1000000) (hm : ts.length ≤ 1000000) (hk : rs.length ≤ 1000000) (hF : (rows rs).flatten.length ≤ 1000000) (hA : Cells V A 1 Go.Bs.encI l) (hT : Cells V T 4 Th.enc ts) (hM : RwM V R rs) (hP : rows rs = P) :
    Calls Try.prog 37 #[.agg #[.slice A l.length c, .int .i64 h, .int .i64 ca, .int .i64 em, .int .i64 re, .int .i64 ax, .int .i64 dk], .slice T ts.length cT, .slice R rs.length cR] V fun e w' => e = .returned (.tuple #[.int .i64 (axVal ⟨l, h, ca, em, re, ax, dk⟩ ts P).1, .int .i64 (axVal ⟨l, h, ca, em, re, ax, dk⟩ ts P).2.1, .bool (axVal ⟨l, h, ca, em, re, ax, dk⟩ ts P).2.2.1, .int .i64 (axVal ⟨l, h, ca, em, re, ax, dk⟩ ts P).2.2.2]) ∧ Below V.heap.size V w' := by
  rw [← hP]
  exact Axles_any ⟨⟨⟨l, h, ca, em, re, ax, dk⟩, A, c⟩, T, cT⟩ ts R rs.length cR rs V (by simp only; omega) (by omega) hA hT rfl (by omega) hM hF
theorem stopsC (A : Option Addr) (c : Nat) (h ca em re ax dk : Int) (l : List Int) (T : Option Addr) (cT : Nat) (ts : List Th) (R : Option Addr) (cR : Nat) (rs : List RwV) (P : List (List Int)) (B : Option Addr) (cB : Nat) (bs : List Br) (V : World) (hl : l.length ≤ 1000000) (hm : ts.length ≤ 1000000) (hk : rs.length ≤ 1000000) (hF : (rows rs).flatten.length ≤ 1000000) (hA : Cells V A 1 Go.Bs.encI l) (hT : Cells V T 4 Th.enc ts) (hM : RwM V R rs) (hP : rows rs = P) (hb : bs.length ≤ 1000000) (hB : Cells V B 2 Br.enc bs) :
    Calls Try.prog 53 #[.agg #[.slice A l.length c, .int .i64 h, .int .i64 ca, .int .i64 em, .int .i64 re, .int .i64 ax, .int .i64 dk], .slice T ts.length cT, .slice R rs.length cR, .slice B bs.length cB] V fun e w' => (∃ A2 c2, e = .returned (.tuple #[.slice A2 (stopVal ⟨l, h, ca, em, re, ax, dk⟩ ts P bs).1.length c2, .int .i64 (stopVal ⟨l, h, ca, em, re, ax, dk⟩ ts P bs).2]) ∧ Cells w' A2 1 Go.Bs.encI (stopVal ⟨l, h, ca, em, re, ax, dk⟩ ts P bs).1) ∧ Below V.heap.size V w' := by
  rw [← hP]
  refine (Stops_any ⟨⟨⟨l, h, ca, em, re, ax, dk⟩, A, c⟩, T, cT⟩ ts R rs.length cR rs B bs.length cB bs V (by simp only; omega) (by omega) hA hT rfl (by omega) hM hF rfl hb hB).mono ?_
  rintro e w' ⟨hx, v, he, A2, c2, hv, hc⟩
  subst hv
  exact ⟨⟨A2, c2, he, hc⟩, hx⟩
theorem roadC (A : Option Addr) (c : Nat) (bs : List Br) (w : World) (hm : bs.length ≤ 1000000) (ht : Cells w A 2 Br.enc bs) :
    Calls Try.prog 54 #[.slice A bs.length c] w fun e w' => (∃ A2 c2, e = .returned (.slice A2 bs.length c2) ∧ Cells w' A2 2 Br.enc bs) ∧ Below w.heap.size w w' :=
  (road_own A bs.length c bs w rfl hm ht).mono fun e w' ⟨v, he, ho, hb⟩ => by
    obtain ⟨A2, c2, rfl, -, -, h4⟩ := ho.cells br_len
    exact ⟨⟨A2, c2, he, h4⟩, hb⟩
end Go.Proofs.Ytbpmfaibcibleaa
