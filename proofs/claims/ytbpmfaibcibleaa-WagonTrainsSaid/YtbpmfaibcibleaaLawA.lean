/- Contracts in the form that the laws' walks use. -/
import Derived.Test.YtbpmfaibcibleaaLhpB
import Derived.Test.YtbpmfaibcibleaaLhpC
import Derived.Test.YtbpmfaibcibleaaLhpE
import Derived.Test.YtbpmfaibcibleaaAwkB
namespace Go.Proofs.Ytbpmfaibcibleaa
open Go.RowKit Go.Bs Go.Wg Go.Pl Go.Sort
theorem lorryC (A : Option Addr) (c : Nat) (h ca em re ax dk : Int) (l : List Int) (w : World) (hm : l.length ≤ 1000000000) (hd : Cells w A 1 Go.Bs.encI l) :
    Calls Try.prog 26 #[.agg #[.slice A l.length c, .int .i64 h, .int .i64 ca, .int .i64 em, .int .i64 re, .int .i64 ax, .int .i64 dk]] w fun e w' => (∃ A2 c2, e = .returned (.agg #[.slice A2 l.length c2, .int .i64 h, .int .i64 ca, .int .i64 em, .int .i64 re, .int .i64 ax, .int .i64 dk]) ∧ Cells w' A2 1 Go.Bs.encI l) ∧ Below w.heap.size w w' :=
  (Lorry_any A l.length c h ca em re ax dk l w rfl hm hd).mono fun e w' ⟨A2, c2, he, ⟨A3, c3, h3, _, _, h4, _⟩, hb⟩ => ⟨⟨A2, c2, he, by injection h3 with e1 e2 e3; rw [e1]; exact h4⟩, hb⟩
theorem thingsC (A : Option Addr) (c : Nat) (ts : List Th) (w : World) (hm : ts.length ≤ 1000000) (ht : Cells w A 4 Th.enc ts) :
    Calls Try.prog 27 #[.slice A ts.length c] w fun e w' => (∃ A2 c2, e = .returned (.slice A2 ts.length c2) ∧ Cells w' A2 4 Th.enc ts) ∧ Below w.heap.size w w' :=
  (things_own A ts.length c ts w rfl hm ht).mono fun e w' ⟨v, he, ho, hb⟩ => by
    obtain ⟨A2, c2, rfl, -, -, h4⟩ := ho.cells th_len
    exact ⟨⟨A2, c2, he, h4⟩, hb⟩
theorem listC (A : Option Addr) (c : Nat) (l : List Int) (w : World) (hm : l.length ≤ 1000000000) (hd : Cells w A 1 Go.Bs.encI l) :
    Calls Try.prog 44 #[.slice A l.length c] w fun e w' => (∃ A2 c2, e = .returned (.slice A2 l.length c2) ∧ Cells w' A2 1 Go.Bs.encI l) ∧ Below w.heap.size w w' :=
  (list_own A l.length c l w rfl hm hd).mono fun e w' ⟨v, he, ho, hb⟩ => by
    obtain ⟨A2, c2, rfl, -, -, h4⟩ := ho.cells Go.Bs.encI_len
    exact ⟨⟨A2, c2, he, h4⟩, hb⟩
theorem lanesC (A : Option Addr) (c : Nat) (rs : List RwV) (w : World) (hm : rs.length ≤ 1000000) (hM : RwM w A rs) (hl : ∀ x ∈ rs, x.r.length ≤ 1000000000) :
    Calls Try.prog 36 #[.slice A rs.length c] w fun e w' => (∃ A2 c2 rs2, e = .returned (.slice A2 rs.length c2) ∧ rows rs2 = rows rs ∧ RwM w' A2 rs2) ∧ Below w.heap.size w w' :=
  (lanes_any A rs.length c rs w rfl hm hM hl).mono fun _ _ ⟨A2, c2, rs2, he, h1, h2, hb⟩ => ⟨⟨A2, c2, rs2, he, h1, h2⟩, hb⟩
end Go.Proofs.Ytbpmfaibcibleaa
