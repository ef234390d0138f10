/- Walk: the law YardFlows, the loop that gathers the four lists. -/
import Derived.Deep.DeepCutAuto
import Derived.Test.YtopfhinnamhoiaaAnyL
namespace Go.Proofs.Ytopfhinnamhoiaa
open Go.RowKit Go.Bs Go.Yd Go.Pl Go.Sort

/-- four rows of the call's own, in one box -/
structure FlwI (W0 W : World) (L : Nat → List Int) (V : Nat → Value) : Prop where
  bl : Below W0.heap.size W0 W
  b : Blk W W0.heap.size 80 [V 0, V 1, V 2, V 3]
  own : ∀ j, j < 4 → OwnL W (W0.heap.size + 1) 3 1 encI (V j) (L j)
  dis : ∀ i j, i < 4 → j < 4 → i ≠ j → (V i).ownBlock = none ∨ (V j).ownBlock = none ∨ (V i).ownBlock ≠ (V j).ownBlock
def updL (L : Nat → List Int) (j : Nat) (l : List Int) : Nat → List Int := fun i => if i = j then l else L i
def updV (V : Nat → Value) (j : Nat) (v : Value) : Nat → Value := fun i => if i = j then v else V i
section
variable {W0 W W' X Y : World} {L : Nat → List Int} {V : Nat → Value}
theorem FlwI.ext (h : FlwI W0 W L V) (hb : Below W.heap.size W W') : FlwI W0 W' L V :=
  ⟨ext_trans h.bl hb, h.b.ext hb, fun j hj => (h.own j hj).ext hb, h.dis⟩
theorem FlwI.at (h : FlwI W0 W L V) {j : Nat} (hj : j < 4) : W.cell? ⟨W0.heap.size, j, none⟩ = some (V j) := by
  rcases j with _ | _ | _ | _ | j
  · exact h.b.cell rfl
  · exact h.b.cell rfl
  · exact h.b.cell rfl
  · exact h.b.cell rfl
  · omega
theorem FlwI.put (h : FlwI W0 X L V) {j : Nat} (hj : j < 4) {l : List Int} {g n c : Nat} (hg : X.grownBy Y (V j).ownBlock) (ho : OwnL Y (W0.heap.size + 1) 3 1 encI (.slice (some ⟨g, 0, none⟩) n c) l) (hat : (V j).ownBlock = some g ∨ g = X.heap.size) :
    FlwI W0 (Y.setCell ⟨W0.heap.size, j, none⟩ (.slice (some ⟨g, 0, none⟩) n c)) (updL L j l) (updV V j (.slice (some ⟨g, 0, none⟩) n c)) := by
  have hlt := h.b.lt
  have hge : ∀ b, (V j).ownBlock = some b → W0.heap.size + 1 ≤ b ∧ b < X.heap.size := fun b hb => (h.own j hj).lt hb
  refine ⟨(h.bl.grown hg h.bl.size (fun b e => by have := (hge b e).1; omega)).setCell (by simp) _, ?_, fun i hi => ?_, fun i k hi hk hne => ?_⟩
  · have hb2 : Blk Y W0.heap.size 80 [V 0, V 1, V 2, V 3] := (hg.block _ hlt (fun e => by have := (hge _ e.symm).1; omega)).trans h.b
    have := hb2.set j (.slice (some ⟨g, 0, none⟩) n c)
    rcases j with _ | _ | _ | _ | j
    · exact this
    · exact this
    · exact this
    · exact this
    · omega
  · by_cases e : i = j
    · subst e
      have e1 : updL L i l i = l := by simp [updL]
      have e2 : updV V i (.slice (some ⟨g, 0, none⟩) n c) i = .slice (some ⟨g, 0, none⟩) n c := by simp [updV]
      rw [e1, e2]
      exact ho.setCell (by simp) _
    · have e1 : updL L j l i = L i := by simp [updL, e]
      have e2 : updV V j (.slice (some ⟨g, 0, none⟩) n c) i = V i := by simp [updV, e]
      rw [e1, e2]
      refine ((h.own i hi).kept hg ?_).setCell (by simp) _
      rcases h.dis i j hi hj e with h1 | h1 | h1
      · exact .inl h1
      · cases hv : (V i).ownBlock with
        | none => exact .inl rfl
        | some b => exact .inr (by rw [h1]; simp)
      · exact .inr h1
  · have key : ∀ m, m < 4 → m ≠ j → (V m).ownBlock = none ∨ (V m).ownBlock ≠ some g := fun m hm hmj => by
      rcases hat with h1 | h1
      · rcases h.dis m j hm hj hmj with h2 | h2 | h2
        · exact .inl h2
        · rw [h2] at h1; cases h1
        · exact .inr (by rw [← h1]; exact h2)
      · cases hv : (V m).ownBlock with
        | none => exact .inl rfl
        | some b => exact .inr (fun e => by cases e; have := ((h.own m hm).lt hv).2; omega)
    have own_g : (Value.slice (some ⟨g, 0, none⟩) n c).ownBlock = some g := by simp [Value.ownBlock]
    by_cases ei : i = j
    · subst ei
      have e1 : updV V i (.slice (some ⟨g, 0, none⟩) n c) i = .slice (some ⟨g, 0, none⟩) n c := by simp [updV]
      have e2 : updV V i (.slice (some ⟨g, 0, none⟩) n c) k = V k := by simp [updV, Ne.symm hne]
      rw [e1, e2, own_g]
      rcases key k hk (Ne.symm hne) with h1 | h1
      · exact .inr (.inl h1)
      · exact .inr (.inr (Ne.symm h1))
    · have e1 : updV V j (.slice (some ⟨g, 0, none⟩) n c) i = V i := by simp [updV, ei]
      rw [e1]
      by_cases ek : k = j
      · subst ek
        have e2 : updV V k (.slice (some ⟨g, 0, none⟩) n c) k = .slice (some ⟨g, 0, none⟩) n c := by simp [updV]
        rw [e2, own_g]
        rcases key i hi ei with h1 | h1
        · exact .inl h1
        · exact .inr (.inr h1)
      · have e2 : updV V j (.slice (some ⟨g, 0, none⟩) n c) k = V k := by simp [updV, ek]
        rw [e2]
        exact h.dis i k hi hk hne
end
/-- the lists when the first j of the four have been looked at for node k -/
def stp (L : Nat → List Int) (fl : Nat → Bool) (k : Nat) (j : Nat) : Nat → List Int := fun i => if i < j then (if fl i then L i ++ [(k : Int)] else L i) else L i
theorem stp_no {L : Nat → List Int} {fl : Nat → Bool} {k j : Nat} (h : fl j = false) : stp L fl k (j + 1) = stp L fl k j := by
  funext i
  by_cases e : i = j
  · subst e; simp [stp, h]
  · have h1 : (i < j + 1) ↔ (i < j) := by omega
    simp only [stp, h1]
theorem stp_yes {L : Nat → List Int} {fl : Nat → Bool} {k j : Nat} (h : fl j = true) : stp L fl k (j + 1) = updL (stp L fl k j) j (stp L fl k j j ++ [(k : Int)]) := by
  funext i
  by_cases e : i = j
  · subst e; simp [stp, updL, h]
  · have h1 : (i < j + 1) ↔ (i < j) := by omega
    simp only [stp, updL, h1, if_neg e]


set_option maxRecDepth 100000 in
theorem ix84 (fl : Nat → Bool) (j : Nat) (hj : j < 4) (w : World) : (Instr.index 84 (.agg #[.bool (fl 0), .bool (fl 1), .bool (fl 2), .bool (fl 3)]) (.int .i64 (j : Int))).run Try.prog w = .ok (.bool (fl j)) w := by
  have h : j = 0 ∨ j = 1 ∨ j = 2 ∨ j = 3 := by omega
  rcases h with rfl | rfl | rfl | rfl <;> simp [Instr.index, run_underlying Try.underlying84, asIntOf, go_sem]
set_option maxRecDepth 100000 in
set_option maxHeartbeats 8000000 in
theorem flows_inner (wx W0 wr : World) (L : Nat → List Int) (V : Nat → Value) (fl : Nat → Bool) (k : Nat) (hk : k ≤ 1000) (hL : ∀ j, j < 4 → (L j).length ≤ k) (hS : FlwI W0 wr L V) (Q' : Exit → Act → World → Prop) (c : Code)
    (hcode : c = part [1, 1, 1, 1, 1, 1, 1, 1, 0, 1, 2, 2, 1, 0, 2, 1, 1, 1, 1, 1, 2] (Try.f9.body.getD .skip)) {u0 u2 u3 u4 u5 u6 u7 u8 u9 u10 u11 u14 u15 u21 u22 u23 u24 u25 u26 u27 u28 u29 u30 u31 u32 u33 u34 u35 u36 u37 u38 u39 u40 u41 u42 u43 u44 u45 u46 u47 u48 u49 u50 u51 u52 u53 u54 u55 u56 u57 u58 u59 u60 u61 u62 u63 u64 u65 u66 u67 u68 u69 u70 u71 u72 u73 u74 u75 u76 u77 u78 u79 u80 u81 u82 u83 u84 u85 u86 u87 u88 u89 u90 u91 u92 u93 u94 u95 u96 u97 u98 u99 u100 u101 u102 u103 u104 u105 u106 u107 u108 u109 u110 u111 u112 u113 u114 u115 u116 u117 u118 u119 u120 u121 u122 u123 u124 u125 u126 u127 u128 u129 u130 u131 u132 u133 u134 u135 u136 u137 u138 u139 u140 u141 u142 u143 u144 u145 u146 u147 u148 u149 u150 u151 u152 u153 u154 u155 u156 u157 u158 u159 u160 u161 u162 u163 u164 u165 u166 u167 u168 u169 u170 u171 u172 u173 u174 u175 u176 u177 u178 u179 u180 u181 u182 u183 u184 u185 u186 u187 u188 u189 u190 u191 u192 u193 u194 u195 u196 u197 u198 u199 u200 u201 u202 u203 u204 u205 u206 u207 u208 u209 u210 u211 u212 u213 u214 u215 u216 u217 u218 u219 u220 u221 u222 u223 u224 u225 u226 : Value}
    (hK : ∀ (v20 v183 v184 v185 v186 v187 v188 v189 v190 v191 v192 v193 v194 v195 v196 v197 v198 v199 v200 v201 : Value) (V' : Nat → Value) (w' : World), FlwI W0 w' (stp L fl k 4) V' → Q' .normal { tmps := #[u0, .pointer (some ⟨wx.heap.size, 0, none⟩), u2, u3, u4, u5, u6, u7, u8, u9, u10, u11, .pointer (some ⟨W0.heap.size, 0, none⟩), .int .i64 (k : Int), u14, u15, .bool (fl 0), .bool (fl 1), .bool (fl 2), .bool (fl 3), v20, u21, u22, u23, u24, u25, u26, u27, u28, u29, u30, u31, u32, u33, u34, u35, u36, u37, u38, u39, u40, u41, u42, u43, u44, u45, u46, u47, u48, u49, u50, u51, u52, u53, u54, u55, u56, u57, u58, u59, u60, u61, u62, u63, u64, u65, u66, u67, u68, u69, u70, u71, u72, u73, u74, u75, u76, u77, u78, u79, u80, u81, u82, u83, u84, u85, u86, u87, u88, u89, u90, u91, u92, u93, u94, u95, u96, u97, u98, u99, u100, u101, u102, u103, u104, u105, u106, u107, u108, u109, u110, u111, u112, u113, u114, u115, u116, u117, u118, u119, u120, u121, u122, u123, u124, u125, u126, u127, u128, u129, u130, u131, u132, u133, u134, u135, u136, u137, u138, u139, u140, u141, u142, u143, u144, u145, u146, u147, u148, u149, u150, u151, u152, u153, u154, u155, u156, u157, u158, u159, u160, u161, u162, u163, u164, u165, u166, u167, u168, u169, u170, u171, u172, u173, u174, u175, u176, u177, u178, u179, u180, u181, u182, v183, v184, v185, v186, v187, v188, v189, v190, v191, v192, v193, v194, v195, v196, v197, v198, v199, v200, v201, u202, u203, u204, u205, u206, u207, u208, u209, u210, u211, u212, u213, u214, u215, u216, u217, u218, u219, u220, u221, u222, u223, u224, u225, u226], defers := [] } w') :
    Code.wp Try.prog c (Exit.inBlock 2 Q') { tmps := #[u0, .pointer (some ⟨wx.heap.size, 0, none⟩), u2, u3, u4, u5, u6, u7, u8, u9, u10, u11, .pointer (some ⟨W0.heap.size, 0, none⟩), .int .i64 (k : Int), u14, u15, .bool (fl 0), .bool (fl 1), .bool (fl 2), .bool (fl 3), .int .i64 0, u21, u22, u23, u24, u25, u26, u27, u28, u29, u30, u31, u32, u33, u34, u35, u36, u37, u38, u39, u40, u41, u42, u43, u44, u45, u46, u47, u48, u49, u50, u51, u52, u53, u54, u55, u56, u57, u58, u59, u60, u61, u62, u63, u64, u65, u66, u67, u68, u69, u70, u71, u72, u73, u74, u75, u76, u77, u78, u79, u80, u81, u82, u83, u84, u85, u86, u87, u88, u89, u90, u91, u92, u93, u94, u95, u96, u97, u98, u99, u100, u101, u102, u103, u104, u105, u106, u107, u108, u109, u110, u111, u112, u113, u114, u115, u116, u117, u118, u119, u120, u121, u122, u123, u124, u125, u126, u127, u128, u129, u130, u131, u132, u133, u134, u135, u136, u137, u138, u139, u140, u141, u142, u143, u144, u145, u146, u147, u148, u149, u150, u151, u152, u153, u154, u155, u156, u157, u158, u159, u160, u161, u162, u163, u164, u165, u166, u167, u168, u169, u170, u171, u172, u173, u174, u175, u176, u177, u178, u179, u180, u181, u182, u183, u184, u185, u186, u187, u188, u189, u190, u191, u192, u193, u194, u195, u196, u197, u198, u199, u200, u201, u202, u203, u204, u205, u206, u207, u208, u209, u210, u211, u212, u213, u214, u215, u216, u217, u218, u219, u220, u221, u222, u223, u224, u225, u226], defers := [] } wr := by
  subst hcode
  have HK := Lib.hid hK
  have HL := Lib.hid hL
  clear hK hL
  simp only [part, Try.f9, Option.getD_some]
  let htext := bodyPost Try.prog Try.f9 (fun _ _ => True)
  go_loopw [20] (fun x wr => ∃ (j : Nat) (V : Nat → Value), x = .int .i64 j ∧ j ≤ 4 ∧ FlwI W0 wr (stp L fl k j) V) (fun x _ => 4 - (intOf x).toNat)
  case atStart => exact ⟨0, V, rfl, by omega, by
    have : stp L fl k 0 = L := by funext i; simp [stp]
    rw [this]; exact hS⟩
  case round =>
    clear hS
    obtain ⟨j, V, rfl, hj, hS⟩ := hrel
    by_cases hlt : j < 4
    · have hlt' : (j : Int) < 4 := by omega
      have hj0 : (0 : Int) ≤ (j : Int) := by omega
      go_upto_region 22 with fail
      go_cut [193] (fun z W' => z = .bool (fl j) ∧ W' = wr)
      case first =>
        have hix := ix84 fl j hlt
        go_wp2
        go_meet
        case rel => exact ⟨rfl, rfl⟩
      case rest =>
        obtain ⟨rfl, rfl⟩ := hcut
        cases hf : fl j
        · have hst := stp_no (L := L) (k := k) hf
          have Hst := Lib.hid hst
          clear hf hst
          go_wp2
          go_roundw
          case rel => exact ⟨j + 1, V, by go_num, by omega, by rw [Hst.out]; exact hS⟩
          case measure => simp [intOf]; omega
        · have hst := stp_yes (L := L) (k := k) hf
          have Hst := Lib.hid hst
          have hlen : (stp L fl k j j).length ≤ 1000 := by
            have : stp L fl k j j = L j := by simp [stp]
            rw [this]
            have := HL.out j hlt
            omega
          clear hf hst
          have x0 := hS.at hlt
          have hS1 := hS.ext (ext_alloc wc (.cells #[.int .i64 (k : Int)] 3))
          have hszc := hS.b.lt
          have hvge : ∀ b, (V j).ownBlock = some b → W0.heap.size + 1 ≤ b := fun b hb => ((hS.own j hlt).lt hb).1
          have hbk : ∀ (Y : World), (wc.alloc (.cells #[.int .i64 (k : Int)] 3)).grownBy Y (V j).ownBlock → Blk Y W0.heap.size 80 [V 0, V 1, V 2, V 3] := fun Y hg => (hg.block _ hS1.b.lt (fun e => by have := hvge _ e.symm; omega)).trans hS1.b
          have hat4 : ∀ {Y : World}, Blk Y W0.heap.size 80 [V 0, V 1, V 2, V 3] → Y.cell? ⟨W0.heap.size, j, none⟩ = some (V j) := fun {Y} hb => by
            rcases j with _ | _ | _ | _ | j
            · exact hb.cell rfl
            · exact hb.cell rfl
            · exact hb.cell rfl
            · exact hb.cell rfl
            · omega
          go_wp2_with (at_builtin; refine app1 encI 24 3 1 8 et24 (by decide) (by decide) encI_len encI_one rfl _ _ rfl (W0.heap.size + 1) (V j) (stp L fl k j j) rfl (hS1.own j hlt) wc.heap.size rfl (k : Int) (encI_cell (by simp)) (by omega) (by simp; omega) ?_; intro g' cap' w' hown hb3 hgr hat; have hbw := hbk _ hgr; have z0 := hat4 hbw; have f0 := hbw.free j)
          have hS2 := hS1.put hlt hgr hown hat
          go_roundw
          case rel => exact ⟨j + 1, _, by go_num, by omega, by rw [Hst.out]; exact hS2⟩
          case measure => simp [intOf]; omega
    · obtain rfl : j = 4 := by omega
      go_wp2
      exact HK.out _ _ _ _ _ _ _ _ _ _ _ _ _ _ _ _ _ _ _ _ V wr hS
end Go.Proofs.Ytopfhinnamhoiaa
