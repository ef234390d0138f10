/- Rows of any length that a machine holds: copies. -/
import Derived.Test.YtcnidhcdkbfpcaaPrlO
namespace Go.Bs
open Go.RowKit Go.Sort Go.Pl
theorem app_wide {P : Program} {ops : Array Oper} {rest : List Oper} {o : Oper} {a : Act} {Q : Exit → Act → World → Prop} {w : World} (t e : TypeId) (hT : ElemT P t e 1 8)
    (hgd : o.guard = none) (s x : Operand)
    (ho : o.op = .call { callee := .builtin .append, args := #[s, x], argTypes := #[t, t] }) (base : Nat) (v : Value) (l : List Int) (hs : a.eval s = v) (hown : OwnL w base e 1 encI v l)
    (X : Option Addr) (m c : Nat) (l2 : List Int) (hm : l2.length = m) (hx : a.eval x = .slice X m c) (hc : Cells w X 1 encI l2) (hlen : (l.length + m) * 8 ≤ 140737488355328) (hbase : base ≤ w.heap.size)
    (h : ∀ v' w', OwnL w' base e 1 encI v' (l ++ l2) → Below base w w' → w.grownBy w' v.ownBlock → ((v' = v ∧ w' = w) ∨ ∃ g cap, v' = .slice (some ⟨g, 0, none⟩) (l.length + m) cap ∧ (v.ownBlock = some g ∨ g = w.heap.size)) → wpList P ops Q rest (a.put o.dst v') w') :
    wpList P ops Q (o :: rest) a w := by
  obtain ⟨i, z, ht, hi, hz, hs1, hb1, hz1⟩ := hT
  cases m with
  | zero =>
    have hl2 : l2 = [] := List.length_eq_zero_iff.1 hm
    subst hl2
    obtain ⟨A, d, rfl, hd, _⟩ := hown.cells encI_len
    have hrun := run_app_zero (P := P) (w := w) ht hi o.type A X l.length d c hd
    refine wpList_plain hgd fun K hK => ?_
    unfold Oper.wp
    simp [execOp, ho, resolve, invoke, builtin, hs, hx, hrun, Result.andThen]
    exact hK _ _ (h _ w (by simpa using hown) (Below.refl _ _) ⟨rfl, rfl, rfl, Nat.le_refl _, fun _ _ _ => rfl⟩ (.inl ⟨rfl, rfl⟩))
  | succ m =>
    obtain ⟨b, off, rfl, -⟩ := hc.at (k := 0) (by omega)
    refine wpList_append_lies w hgd s x t ho base e i z 1 8 ht hi hz hs1 hb1 hz1 (by decide) v l.length (l.flatMap encI) hs hown ⟨b, off, none⟩ (m + 1) c (l2.flatMap encI) hx ?_ ?_ ?_ (by omega) (by unfold maxLen; omega) (by omega) hbase w.heap.size rfl ?_
    · have : ∀ k : List Int, (k.flatMap encI).length = k.length := fun k => by induction k with | nil => rfl | cons y k ih => simp [List.flatMap_cons, ih, encI_len]; omega
      rw [this]; omega
    · have hfm : ∀ k : List Int, k.flatMap encI = k.map (Value.int .i64) := fun k => by induction k with | nil => rfl | cons y k ih => rw [List.flatMap_cons, ih]; rfl
      intro j u hj
      rw [hfm] at hj
      obtain ⟨y, hy, rfl⟩ : ∃ y, l2[j]? = some y ∧ Value.int .i64 y = u := by simpa using hj
      obtain ⟨b', off', e', hcc⟩ := hc j y hy
      cases e'
      have := hcc 0 _ rfl
      unfold Addr.add
      split
      · rename_i h0; subst h0; simpa using this
      · simpa using this
    · intro u hu
      obtain ⟨y, hy, hu⟩ := List.mem_flatMap.1 hu
      exact encI_one y u hu
    · intro g' cap w' hown' hgrow hat hlt
      refine h _ w' ?_ ((Below.refl base w).grown hgrow hbase (fun k hk => (hown.lt hk).1)) hgrow (.inr ⟨g', cap, rfl, hat⟩)
      unfold OwnL
      rw [List.length_append, List.flatMap_append, hm]
      exact hown'
end Go.Bs
namespace Go.Proofs.Ytcnidhcdkbfpcaa
open Go.RowKit Go.Bs Go.Pg Go.Pl Go.Sort
theorem list_wide (A : Option Addr) (n c : Nat) (l : List Int) (w : World) (hn : l.length = n) (hm : n * 8 ≤ 140737488355328) (hd : Cells w A 1 encI l) :
    Calls Try.prog 27 #[.slice A n c] w fun e w' => ∃ v, e = .returned v ∧ OwnL w' w.heap.size 3 1 encI v l ∧ Below w.heap.size w w' := by
  have ho : OwnL (w.alloc (.cells #[] 3)) w.heap.size 3 1 encI (.slice (some ⟨w.heap.size, 0, none⟩) 0 0) ([] : List Int) := own_new w 3 1 encI
  have hd := hd.ext (ext_alloc w (.cells #[] 3))
  have hba := ext_alloc w (.cells #[] 3)
  go_enter Try.func27, Try.ntmps27
  go_wp2_with (at_builtin; refine app_wide 23 3 et23 rfl _ _ rfl w.heap.size _ [] rfl ho A n c l hn rfl hd (by simp; omega) (by simp) ?_; intro v' w' hown hb _ _)
  go_ret
  exact ⟨_, rfl, by simpa using hown, hba.trans hb⟩
set_option maxRecDepth 100000 in
set_option maxHeartbeats 1000000 in
theorem rows_wide (A : Option Addr) (m c : Nat) (T : List (List Int)) (w : World) (hm : T.length = m) (hm9 : m ≤ 1000) (hr9 : ∀ r ∈ T, r.length * 8 ≤ 140737488355328) (hT : TabA w A T) :
    Calls Try.prog 40 #[.slice A m c] w fun e w' => (∃ A' c', e = .returned (.slice A' m c') ∧ TabA w' A' T) ∧ Below w.heap.size w w' := by
  have Hm := Lib.hid hm
  have Hr9 := Lib.hid hr9
  clear hm hr9
  go_enter Try.func40, Try.ntmps40
  go_upto_block 0 with fail
  go_wp2
  go_loopw [3, 4] (fun v t wr => ∃ i : Nat, t = .int .i64 i ∧ i ≤ m ∧ RwI w T i v wr) (fun _ t _ => m - (intOf t).toNat)
  case atStart => exact ⟨0, rfl, by omega, ⟨Below.refl _ _, [], OwnL.nil, rfl, by simp⟩⟩
  case round =>
    obtain ⟨i, rfl, hi, hI⟩ := hrel
    by_cases hlt : i < m
    · have hlt' : (i : Int) < (m : Int) := by omega
      have hi0 : (0 : Int) ≤ (i : Int) := by omega
      have hiT : i < T.length := by rw [Hm.out]; exact hlt
      obtain ⟨b, off, A1, c1, hA, q0, hc1⟩ := (hT.ext hI.bl).row hiT
      subst hA
      have hl := Hr9.out _ (List.getElem_mem hiT)
      have htk : T.take (i + 1) = T.take i ++ [T[i]] := List.take_succ_eq_append_getElem hiT
      have Htk := Lib.hid htk
      clear htk
      generalize T[i] = r at *
      have CL := Lib.hid (list_wide A1 r.length c1 r wr rfl (by omega) hc1)
      have HI := Lib.hid hI
      clear hI hc1
      go_wp2_with fail
      refine CL.out.mono ?_; rintro e w1 ⟨v1, rfl, hown1, hb1⟩
      obtain ⟨rs, h1, h2, h3⟩ := HI.out.rs
      obtain ⟨A2, c2, rfl, -, -, -⟩ := hown1.cells encI_len
      have hbl := HI.out.bl.trans (hb1.mono HI.out.bl.size)
      have h1 := h1.ext hb1
      have h3 := fun x hx => (h3 x hx).ext hb1
      have hrl : rs.length = i := by
        have := congrArg List.length h2
        rw [List.length_map, List.length_take] at this
        omega
      have hnew := Blk.new w1 23 (RwV.enc ⟨r, A2, c2⟩)
      have hba := ext_alloc w1 (.cells (RwV.enc ⟨r, A2, c2⟩).toArray 23)
      have hsz := hbl.size
      have H1 := Lib.hid h1
      have H2 := Lib.hid h2
      have H3 := Lib.hid h3
      have Ho1 := Lib.hid hown1
      have Hbl := Lib.hid hbl
      have Hrl := Lib.hid hrl
      clear h1 h2 h3 hown1 hbl q0 CL hb1 hrl
      go_wp2_with (at_builtin; refine app1 RwV.enc 29 23 1 24 et29 (by decide) (by decide) rwv_len rwv_one rfl _ _ rfl w.heap.size _ rs rfl (H1.out.alloc _) w1.heap.size rfl ⟨r, A2, c2⟩ (fun j u hj => hnew.cell hj) (by rw [Hrl.out]; omega) (by simp; omega) ?_; intro g' cap' V9 hown' hb7 hgr7 hat7)
      go_roundw
      case rel =>
        refine ⟨i + 1, by go_num, by omega, ⟨Hbl.out.trans ((hba.mono hsz).trans hb7), rs ++ [⟨r, A2, c2⟩], hown', by rw [List.map_append, H2.out, Htk.out]; rfl, ?_⟩⟩
        intro x hx
        rcases List.mem_append.1 hx with hx | hx
        · exact ((H3.out x hx).alloc _).kept hgr7 (own_own (H3.out x hx) H1.out (by decide))
        · rw [List.mem_singleton] at hx
          subst hx
          exact OwnL.up (((Ho1.out).alloc _).kept hgr7 (own_own Ho1.out H1.out (by decide))) (Nat.zero_le _)
      case measure => simp [intOf]; omega
    · obtain rfl : i = m := by omega
      obtain ⟨rs, h1, h2, h3⟩ := hI.rs
      rw [List.take_of_length_le (by rw [Hm.out]; omega)] at h2
      obtain ⟨A', c', rfl, -, -, hc⟩ := h1.cells rwv_len
      have hrl : rs.length = i := by rw [← Hm.out, ← h2, List.length_map]
      have HI := Lib.hid hI.bl
      have HT := Lib.hid (show TabA wr A' T from ⟨rs, h2, hc, fun x hx => by
        obtain ⟨A3, c3, e3, -, -, h4⟩ := (h3 x hx).cells encI_len
        injection e3 with e4 e5 e6
        rw [e4]; exact h4⟩)
      have Hrl := Lib.hid hrl
      clear hI h1 h2 h3 hc
      rw [Hrl.out]
      clear hrl
      go_wp2
      go_ret
      exact ⟨⟨A', c', rfl, HT.out⟩, HI.out⟩
end Go.Proofs.Ytcnidhcdkbfpcaa
