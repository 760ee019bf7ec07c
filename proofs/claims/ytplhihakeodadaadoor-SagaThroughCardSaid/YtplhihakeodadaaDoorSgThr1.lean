/- saga: the law SagaThrough, walked, and its closure. (written by gen_thr.py) -/
import Derived.Test.YtplhihakeodadaaDoorSgTh
import Derived.Test.YtplhihakeodadaaDoorSgFun7
namespace Go.Proofs.YtplhihakeodadaaDoor.Sg
open Go Go.RowKit Go.Proofs.YtplhihakeodadaaDoorW.PrintWords Go.Proofs.YtplhihakeodadaaDoorW.PrintLast Go.Proofs.YtplhihakeodadaaDoorW.PrintMore
set_option linter.unusedVariables false
set_option linter.unusedSimpArgs false
set_option maxHeartbeats 32000000 in
set_option maxRecDepth 20000 in
theorem Thr1_T (g : Nat) (V : SV) (s s' : SS) (k x : Int) (w : World) (hT : TabW w) (hg : w.heap[g]? = some (.cells (stv V s) 34 (0, 0))) (hV : StR w 0 V s) (hb : Bd 1000000 s) (h0 : take s ⟨k, x, pl0⟩ = (s', 0)) :
    Calls Tryd.prog 18 #[.agg #[.int .i64 k, .int .i64 x, .slice none 0 0, .slice none 0 0, .slice none 0 0, .slice none 0 0], .pointer (some ⟨g, 0, none⟩)] w fun e w' => ∃ V', e = .returned (.bool true) ∧ w'.heap[g]? = some (.cells (stv V' s') 34 (0, 0)) ∧ StR w' 0 V' s' ∧ Below g w w' := by
  have hlt : g < w.heap.size := (Array.getElem?_eq_some_iff.1 hg).1
  obtain ⟨Azf, czf, Azt, czt, Azs, czs, Azb, czb, Azo, czo, Azd, czd, rfl⟩ := hV.opened
  have hstv : stv ⟨⟨.slice Azf s.pl.1.length czf, .slice Azt s.pl.2.1.length czt, .slice Azs s.pl.2.2.1.length czs, .slice Azb s.pl.2.2.2.length czb⟩, .slice Azo s.op.length czo, .slice Azd s.dn.length czd⟩ s = #[.int .i64 s.num, .int .i64 s.ph, .slice Azf s.pl.1.length czf, .slice Azt s.pl.2.1.length czt, .slice Azs s.pl.2.2.1.length czs, .slice Azb s.pl.2.2.2.length czb, .slice Azo s.op.length czo, .slice Azd s.dn.length czd] := rfl
  rw [hstv] at hg
  have hb1 := below_alloc (Below.refl w.heap.size w) (.cells #[.int .i64 k, .int .i64 x, .slice none 0 0, .slice none 0 0, .slice none 0 0, .slice none 0 0] 39)
  have HG1 := Aside0.mk (blk_below hg hb1)
  have HX1 := Aside0.mk (heap_last w (.cells #[.int .i64 k, .int .i64 x, .slice none 0 0, .slice none 0 0, .slice none 0 0, .slice none 0 0] 39))
  have HB1 := Aside0.mk (hb1.mono (Nat.le_of_lt hlt))
  have HLT := Aside0.mk hlt
  obtain ⟨W1, hW1⟩ : ∃ W, w.alloc (.cells #[.int .i64 k, .int .i64 x, .slice none 0 0, .slice none 0 0, .slice none 0 0, .slice none 0 0] 39) = W := ⟨_, rfl⟩
  rw [hW1] at HG1 HX1 hb1 HB1
  have K := Aside0.mk (Take_T ⟨⟨.slice Azf s.pl.1.length czf, .slice Azt s.pl.2.1.length czt, .slice Azs s.pl.2.2.1.length czs, .slice Azb s.pl.2.2.2.length czb⟩, .slice Azo s.op.length czo, .slice Azd s.dn.length czd⟩ s pv0 ⟨k, x, pl0⟩ W1 (hT.below hb1) (hV.below hb1).c (PlC.nil_ _) rfl hb)
  rw [hstv, h0] at K
  unfold rrv pv0 at K
  dsimp only at K
  have HLB := Aside0.mk hb1.size
  have hg0 := (blk_cell HG1.out) 0
  have hg1 := (blk_cell HG1.out) 1
  have hg2 := (blk_cell HG1.out) 2
  have hg3 := (blk_cell HG1.out) 3
  have hg4 := (blk_cell HG1.out) 4
  have hg5 := (blk_cell HG1.out) 5
  have hg6 := (blk_cell HG1.out) 6
  have hg7 := (blk_cell HG1.out) 7
  have hx0 := (blk_cell HX1.out) 0
  have hx1 := (blk_cell HX1.out) 1
  have hx2 := (blk_cell HX1.out) 2
  have hx3 := (blk_cell HX1.out) 3
  have hx4 := (blk_cell HX1.out) 4
  have hx5 := (blk_cell HX1.out) 5
  clear hT hg hV hb h0 hstv hb1 hlt
  go_enter Tryd.func18, Tryd.ntmps18
  go_upto_region 1 with (fail)
  clear hW1
  go_wp2_with (fail)
  refine K.out.mono ?_
  rintro e w3 ⟨V3, rfl, hr, hb⟩
  obtain ⟨Aaf, caf, Aat, cat, Aas, cas, Aab, cab, Aao, cao, Aad, cad, rfl⟩ := hr.opened
  have hb9 := below_alloc (Below.refl w3.heap.size w3) (.cells #[.int .i64 s'.num, .int .i64 s'.ph, .slice Aaf s'.pl.1.length caf, .slice Aat s'.pl.2.1.length cat, .slice Aas s'.pl.2.2.1.length cas, .slice Aab s'.pl.2.2.2.length cab, .slice Aao s'.op.length cao, .slice Aad s'.dn.length cad] 34)
  have HG3 := Aside0.mk (blk_below (blk_below HG1.out hb) hb9)
  have HX3 := Aside0.mk (heap_last w3 (.cells #[.int .i64 s'.num, .int .i64 s'.ph, .slice Aaf s'.pl.1.length caf, .slice Aat s'.pl.2.1.length cat, .slice Aas s'.pl.2.2.1.length cas, .slice Aab s'.pl.2.2.2.length cab, .slice Aao s'.op.length cao, .slice Aad s'.dn.length cad] 34))
  have HR3 := Aside0.mk ((hr.lower (Nat.zero_le _)).below hb9)
  have HB3 := Aside0.mk (HB1.out.trans ((Below.trans hb (hb9.mono hb.size)).mono (Nat.le_of_lt (Nat.lt_of_lt_of_le HLT.out HLB.out))))
  clear K hb hb9 hr hg0 hg1 hg2 hg3 hg4 hg5 hg6 hg7 hx0 hx1 hx2 hx3 hx4 hx5
  have hy0 := (blk_cell HX3.out) 0
  have hy1 := (blk_cell HX3.out) 1
  have hy2 := (blk_cell HX3.out) 2
  have hy3 := (blk_cell HX3.out) 3
  have hy4 := (blk_cell HX3.out) 4
  have hy5 := (blk_cell HX3.out) 5
  have hy6 := (blk_cell HX3.out) 6
  have hy7 := (blk_cell HX3.out) 7
  have hz0 := (blk_cell HG3.out) 0
  have hz1 := (blk_cell HG3.out) 1
  have hz2 := (blk_cell HG3.out) 2
  have hz3 := (blk_cell HG3.out) 3
  have hz4 := (blk_cell HG3.out) 4
  have hz5 := (blk_cell HG3.out) 5
  have hz6 := (blk_cell HG3.out) 6
  have hz7 := (blk_cell HG3.out) 7
  have hzf0 := free_of HG3.out 0
  have hzf1 := free_of HG3.out 1
  have hzf2 := free_of HG3.out 2
  have hzf3 := free_of HG3.out 3
  have hzf4 := free_of HG3.out 4
  have hzf5 := free_of HG3.out 5
  have hzf6 := free_of HG3.out 6
  have hzf7 := free_of HG3.out 7
  unfold stv
  dsimp only
  go_wp2_with (fail)
  obtain ⟨wx, hwx⟩ : ∃ W, sets g (w3.alloc (.cells #[.int .i64 s'.num, .int .i64 s'.ph, .slice Aaf s'.pl.1.length caf, .slice Aat s'.pl.2.1.length cat, .slice Aas s'.pl.2.2.1.length cas, .slice Aab s'.pl.2.2.2.length cab, .slice Aao s'.op.length cao, .slice Aad s'.dn.length cad] 34)) [(0, .int .i64 s'.num), (1, .int .i64 s'.ph), (2, .slice Aaf s'.pl.1.length caf), (3, .slice Aat s'.pl.2.1.length cat), (4, .slice Aas s'.pl.2.2.1.length cas), (5, .slice Aab s'.pl.2.2.2.length cab), (6, .slice Aao s'.op.length cao), (7, .slice Aad s'.dn.length cad)] = W := ⟨_, rfl⟩
  have hgx := box8 HG3.out (.int .i64 s'.num) (.int .i64 s'.ph) (.slice Aaf s'.pl.1.length caf) (.slice Aat s'.pl.2.1.length cat) (.slice Aas s'.pl.2.2.1.length cas) (.slice Aab s'.pl.2.2.2.length cab) (.slice Aao s'.op.length cao) (.slice Aad s'.dn.length cad)
  have hvx := StR_sets (T := 34) (by decide) [(0, .int .i64 s'.num), (1, .int .i64 s'.ph), (2, .slice Aaf s'.pl.1.length caf), (3, .slice Aat s'.pl.2.1.length cat), (4, .slice Aas s'.pl.2.2.1.length cas), (5, .slice Aab s'.pl.2.2.2.length cab), (6, .slice Aao s'.op.length cao), (7, .slice Aad s'.dn.length cad)] _ _ HG3.out HR3.out
  have hbx := Below_sets (Nat.le_refl _) [(0, .int .i64 s'.num), (1, .int .i64 s'.ph), (2, .slice Aaf s'.pl.1.length caf), (3, .slice Aat s'.pl.2.1.length cat), (4, .slice Aas s'.pl.2.2.1.length cas), (5, .slice Aab s'.pl.2.2.2.length cab), (6, .slice Aao s'.op.length cao), (7, .slice Aad s'.dn.length cad)] _ HB3.out
  rw [hwx] at hgx hvx hbx
  have hwx' := hwx
  simp only [sets, List.foldl] at hwx'
  rw [hwx']
  clear hwx hwx'
  go_ret
  exact ⟨⟨⟨.slice Aaf s'.pl.1.length caf, .slice Aat s'.pl.2.1.length cat, .slice Aas s'.pl.2.2.1.length cas, .slice Aab s'.pl.2.2.2.length cab⟩, .slice Aao s'.op.length cao, .slice Aad s'.dn.length cad⟩, rfl, hgx, hvx, hbx⟩
end Go.Proofs.YtplhihakeodadaaDoor.Sg
