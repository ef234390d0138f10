/- The law ProgrammeBests: its walk. -/
import Derived.Test.YtcnidhcdkbfpcaaGreatPrlF
import Derived.Test.YtcnidhcdkbfpcaaGreatPrlH
import Derived.Test.YtcnidhcdkbfpcaaGreatPrlI
import Derived.Test.YtcnidhcdkbfpcaaGreatPgH
namespace Go.Proofs.YtcnidhcdkbfpcaaGreat
open Go.RowKit Go.Bs Go.Pg Go.Pl Go.Sort
/-- a table just made can be read -/
theorem TabM.toA {W : World} {lo hi : Nat} {v : Value} {T : List (List Int)} (h : TabM W lo hi v T) : ∃ A c, v = .slice A T.length c ∧ TabA W A T := by
  obtain ⟨rs, h1, -, h3, h4⟩ := h
  obtain ⟨A, c, hv, -, -, hc⟩ := h1.cells encR_len
  rw [h3] at hv
  refine ⟨A, c, hv, (List.range T.length).map (fun i => ⟨T.getD i [], some ⟨(rs.getD i (0, 0)).1, 0, none⟩, (rs.getD i (0, 0)).2⟩), ?_, ?_, ?_⟩
  · rw [List.map_map]
    refine List.ext_getElem (by simp) (fun i h1 h2 => ?_)
    simp at h1
    simp [h1]
  · intro i x hx
    rw [List.getElem?_map] at hx
    obtain ⟨j, hj, rfl⟩ := Option.map_eq_some_iff.1 hx
    have hi : i < T.length ∧ j = i := by
      rw [List.getElem?_eq_some_iff] at hj
      obtain ⟨h5, h6⟩ := hj
      simp at h5 h6
      exact ⟨h5, h6.symm⟩
    obtain ⟨hi, rfl⟩ := hi
    have hr : j < rs.length := by omega
    obtain ⟨b, off, hA, hcell⟩ := hc j rs[j] (List.getElem?_eq_getElem hr)
    refine ⟨b, off, hA, fun q y hy => hcell q y ?_⟩
    have h5 := (h4 j hr hi).2.2.1
    have e1 : rs.getD j (0, 0) = rs[j] := by simp [hr]
    have e2 : T.getD j [] = T[j] := by simp [hi]
    rw [e1, e2] at hy
    unfold RwV.enc at hy
    unfold encR
    rw [h5]
    rw [h5] at hy
    exact hy
  · intro x hx
    obtain ⟨j, hj, rfl⟩ := List.mem_map.1 hx
    have hi : j < T.length := by simpa using hj
    have hr : j < rs.length := by omega
    have e1 : rs.getD j (0, 0) = rs[j] := by simp [hr]
    have e2 : T.getD j [] = T[j] := by simp [hi]
    show Cells W (some ⟨(rs.getD j (0, 0)).1, 0, none⟩) 1 encI (T.getD j [])
    rw [e1, e2]
    refine cells_of encI_len (h4 j hr hi).2.2.2 ?_
    induction T[j] with
    | nil => rfl
    | cons a l ih => simp [encI] at ih ⊢; exact ih
end Go.Proofs.YtcnidhcdkbfpcaaGreat
