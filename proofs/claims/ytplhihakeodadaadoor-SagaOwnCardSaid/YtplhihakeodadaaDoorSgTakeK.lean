/- saga: Take, walked. (written by gen_take.py) -/
import Derived.Test.YtplhihakeodadaaDoorSgTake
import Derived.Test.YtplhihakeodadaaDoorWRepsOne
import Derived.Test.YtplhihakeodadaaDoorIMap
import Derived.Test.YtplhihakeodadaaDoorSgPart
namespace Go.Proofs.YtplhihakeodadaaDoor.Sg
open Go Go.RowKit Go.Proofs.YtplhihakeodadaaDoorW.PrintWords Go.Proofs.YtplhihakeodadaaDoorW.PrintLast Go.Proofs.YtplhihakeodadaaDoorW.PrintMore
set_option linter.unusedVariables false
set_option linter.unusedSimpArgs false
theorem lit_int0 (W : World) (x : Int) (T : TypeId) : ReadsRow (fun (p : Int) cs => cs = [.int .i64 p]) 1 (W.alloc (.cells #[.int .i64 x] T)) (some ⟨W.heap.size, 0, none⟩) 1 [x] := lit_int W x T
theorem zero3 (W : World) : (zeroValue 3).run Tryd.prog W = .ok (.int .i64 0) W := by kernel_rfl
theorem sets_far {g q : Nat} (h : q ≠ g) : ∀ (l : List (Nat × Value)) (W : World), (sets g W l).heap[q]? = W.heap[q]?
  | [], W => rfl
  | p :: l, W => (sets_far h l _).trans (Below.heap_setCell W ⟨g, p.1, none⟩ p.2 q h)
theorem len_snoc' (l : List Int) (x : Int) : (l ++ [x]).length = l.length + 1 := by simp
/-- What the record has made of the state, ahead of the end. -/
def Turned (w : World) (s' : SS) (wx : World) : Prop := ∃ V' : SV, wx.heap[w.heap.size]? = some (.cells (stv V' s') 34 (0, 0)) ∧ StR wx w.heap.size V' s' ∧ wx.heap[w.heap.size + 2]? = some (.cells z8 34 (0, 0)) ∧ Below w.heap.size w wx
/-- Stores into the state's box. -/
theorem Turned.mk' {w W : World} {s s' : SS} {V V' : SV} (l : List (Nat × Value)) {cs : Array Value} (hg : W.heap[w.heap.size]? = some (.cells cs 34 (0, 0))) (hg' : (sets w.heap.size W l).heap[w.heap.size]? = some (.cells (stv V' s') 34 (0, 0))) (hr : StR W w.heap.size V' s') (hz : W.heap[w.heap.size + 2]? = some (.cells z8 34 (0, 0))) (hb : Below w.heap.size w W) : Turned w s' (sets w.heap.size W l) :=
  ⟨V', hg', StR_sets (T := 34) (by decide) l _ _ hg hr, (sets_far (by omega) l W).trans hz, Below_sets (Nat.le_refl _) l _ hb⟩
theorem at_ins {P : Program} {q : IntKind} {w : World} {b : Nat} {l : List (Int × Value)} {ops : Array Oper} {rest : List Oper} {o : Oper} {a : Act} {Q : Exit → Act → World → Prop} (hg : o.guard = none) (m x v : Operand) (t : TypeId) (hop : o.op = Op.insert t m x v) {kt et : TypeId} (ht : P.underlying t = some (.map kt et)) (hk : P.underlying kt = some (.int q))
    (hm : a.eval m = .map (some b)) (h : IMap.IM q w b l) (k : Int) (val : Value) (hx : a.eval x = .int q k) (hv : a.eval v = val)
    (hK : ∀ ob, IMap.IM q (ChangeMaps.setBlock w b ob) b (IMap.put l k val) → wpList P ops Q rest (a.put o.dst undef) (ChangeMaps.setBlock w b ob)) : wpList P ops Q (o :: rest) a w := by
  refine wpList_plain hg fun K' hK' => ?_
  obtain ⟨ob, hrun, h1⟩ := h.update ht hk k val
  unfold Oper.wp
  simp [execOp, hop, hm, hx, hv, hrun, Result.andThen]
  exact hK' _ _ (hK ob h1)
theorem get_32 (ph : Int) : (IMap.get (IMap.put (IMap.put ([] : List (Int × Value)) 3 (.int .i64 4)) 2 (.int .i64 5)) ph).getD (.int .i64 0) = .int .i64 (if ph = 3 then 4 else if ph = 2 then 5 else 0) := by
  rw [IMap.get_put, IMap.get_put, IMap.get_nil]
  by_cases q2 : ph = 2
  · subst q2; rfl
  · rw [if_neg q2]
    by_cases q3 : ph = 3
    · subst q3; rfl
    · rw [if_neg q3, if_neg q3, if_neg q2]; rfl
theorem R_apart {α : Type} {K : Kd α} {E base : Nat} {ok : Nat → Prop} {w w1 : World} {v u : Value} {l : List α} (h : Kd.R K E w base ok v l) (hE : K.E = []) (hg : w.grownBy w1 u.ownBlock) (hne : ∀ k, u.ownBlock = some k → v.ownBlock ≠ some k) : Kd.R K E w1 base ok v l :=
  Kd.R_grown2 h hE hg (fun k hk e => hne k hk e.symm)
set_option maxHeartbeats 16000000 in
set_option maxRecDepth 20000 in
theorem takeOK_T (V : SV) (s : SS) (U : PV) (r : RR) (w : World) (hT : TabW w) (h : StC w V s) (hu : PlC w U r.pl) (hp : okPlan s.pl = true) (hq : okPlan r.pl = true) (ho : s.op.length ≤ 1000000) (hd : s.dn.length ≤ 1000000) (hn : 0 ≤ s.num ∧ s.num ≤ 1000000) (hf : formed r = true) (hw : when r.kind s.ph = true) (ha : ask s r = 0) :
    Calls Tryd.prog 17 #[.agg (stv V s), .agg (rrv U r)] w (Took w (turn s r) 0) := by
  have hop0 := h
  obtain ⟨Af, cf, At, ct, As, cs, Ab, cb, Ao, co, Ad, cd, hst, _⟩ := h.opened
  obtain ⟨Bf, df, Bt, dt, Bs, ds, Bb, db, hpl⟩ := hu.opened
  have hrr := rrv_plv (r := r) hpl
  obtain ⟨o, hO⟩ : ∃ o, Obj.cells (stv V s) 34 = o := ⟨_, rfl⟩
  obtain ⟨o2, hO2⟩ : ∃ o, Obj.cells (rrv U r) 39 = o := ⟨_, rfl⟩
  have hb1 := below_alloc (below_alloc (Below.refl w.heap.size w) o) o2
  have hb := below_alloc hb1 (.cells z8 34)
  have hg := blk_alloc (blk_alloc (heap_last w o) o2) (.cells z8 34)
  have hl := heap_last (w.alloc o) o2
  rw [World.size_alloc] at hl
  replace hl := blk_alloc hl (.cells z8 34)
  have hz := heap_last ((w.alloc o).alloc o2) (.cells z8 34)
  rw [World.size_alloc, World.size_alloc] at hz
  obtain ⟨W, hW⟩ : ∃ W, ((w.alloc o).alloc o2).alloc (.cells z8 34) = W := ⟨_, rfl⟩
  rw [hW] at hb hg hl hz
  subst hO hO2
  have HB := Aside0.mk hb
  have HT := Aside0.mk (hT.below hb)
  have HSC := Aside0.mk (h.below hb)
  have HUC := Aside0.mk (hu.below hb)
  have HHP := Aside0.mk hp
  have HHQ := Aside0.mk hq
  have HHO := Aside0.mk ho
  have HHD := Aside0.mk hd
  have HHN := Aside0.mk hn
  have KF := Aside0.mk (formed_T U r W HUC.out hq)
  have KW := Aside0.mk (fun W => when_T r.kind s.ph W)
  have KA := Aside0.mk (fun W' (hb : Below W.heap.size W W') (hf : formed r = true) => ask_T V s U r W' (HT.out.below hb) (HSC.out.below hb) (HUC.out.below hb) hp hq (by omega) (by omega) hf)
  have KO := Aside0.mk (fun W' (hb : Below W.heap.size W W') => own_T V s W' (HSC.out.below hb) hp (by omega) (by omega))
  rw [hst] at hg hW ⊢ KA KO
  rw [hrr] at hl hW ⊢ KF KA
  unfold z8 at hW hz
  have HG := Aside0.mk hg
  have HL := Aside0.mk hl
  have HZ := Aside0.mk hz
  have hg0 := (blk_cell hg) 0
  have hg1 := (blk_cell hg) 1
  have hg2 := (blk_cell hg) 2
  have hg3 := (blk_cell hg) 3
  have hg4 := (blk_cell hg) 4
  have hg5 := (blk_cell hg) 5
  have hg6 := (blk_cell hg) 6
  have hg7 := (blk_cell hg) 7
  have hl0 := (blk_cell hl) 0
  have hl1 := (blk_cell hl) 1
  have hl2 := (blk_cell hl) 2
  have hl3 := (blk_cell hl) 3
  have hl4 := (blk_cell hl) 4
  have hl5 := (blk_cell hl) 5
  have hz0 := (blk_cell hz) 0
  have hz1 := (blk_cell hz) 1
  have hz2 := (blk_cell hz) 2
  have hz3 := (blk_cell hz) 3
  have hz4 := (blk_cell hz) 4
  have hz5 := (blk_cell hz) 5
  have hz6 := (blk_cell hz) 6
  have hz7 := (blk_cell hz) 7
  have hzf0 := free_of hz 0
  have hzf1 := free_of hz 1
  have hzf2 := free_of hz 2
  have hzf3 := free_of hz 3
  have hzf4 := free_of hz 4
  have hzf5 := free_of hz 5
  have hzf6 := free_of hz 6
  have hzf7 := free_of hz 7
  have HST := Aside0.mk hst
  have HU0 := Aside0.mk hu
  have HPL := Aside0.mk hpl
  clear hb hb1 hg hl hz hop0 h hu hT hp hq ho hd hn hst hpl hrr
  have HW := Aside0.mk hw
  rw [hf] at KF
  rw [hw] at KW
  rw [ha] at KA
  clear hw
  go_enter Tryd.func17, Tryd.ntmps17
  go_wp2_with (fail)
  refine KF.out.mono ?_
  rintro e w1 ⟨rfl, hb⟩
  have HBW := Aside0.mk hb
  have HG1 := Aside0.mk (blk_below HG.out hb)
  have HL1 := Aside0.mk (blk_below HL.out hb)
  have HZ1 := Aside0.mk (blk_below HZ.out hb)
  have ga0 := (blk_cell HG1.out) 0
  have ga1 := (blk_cell HG1.out) 1
  have ga2 := (blk_cell HG1.out) 2
  have ga3 := (blk_cell HG1.out) 3
  have ga4 := (blk_cell HG1.out) 4
  have ga5 := (blk_cell HG1.out) 5
  have ga6 := (blk_cell HG1.out) 6
  have ga7 := (blk_cell HG1.out) 7
  have la0 := (blk_cell HL1.out) 0
  have la1 := (blk_cell HL1.out) 1
  have la2 := (blk_cell HL1.out) 2
  have la3 := (blk_cell HL1.out) 3
  have la4 := (blk_cell HL1.out) 4
  have la5 := (blk_cell HL1.out) 5
  have za0 := (blk_cell HZ1.out) 0
  have za1 := (blk_cell HZ1.out) 1
  have za2 := (blk_cell HZ1.out) 2
  have za3 := (blk_cell HZ1.out) 3
  have za4 := (blk_cell HZ1.out) 4
  have za5 := (blk_cell HZ1.out) 5
  have za6 := (blk_cell HZ1.out) 6
  have za7 := (blk_cell HZ1.out) 7
  have zaf0 := free_of HZ1.out 0
  have zaf1 := free_of HZ1.out 1
  have zaf2 := free_of HZ1.out 2
  have zaf3 := free_of HZ1.out 3
  have zaf4 := free_of HZ1.out 4
  have zaf5 := free_of HZ1.out 5
  have zaf6 := free_of HZ1.out 6
  have zaf7 := free_of HZ1.out 7
  clear hb hW hg0 hg1 hg2 hg3 hg4 hg5 hg6 hg7 hl0 hl1 hl2 hl3 hl4 hl5 hz0 hz1 hz2 hz3 hz4 hz5 hz6 hz7 hzf0 hzf1 hzf2 hzf3 hzf4 hzf5 hzf6 hzf7
  have K3 := Aside0.mk (KA.out w1 HBW.out hf)
  clear KA
  go_wp2_with (fail)
  refine (KW.out w1).mono ?_
  rintro e w2 ⟨rfl, rfl⟩
  go_wp2_with (fail)
  refine K3.out.mono ?_
  rintro e w2 ⟨rfl, hb⟩
  have HBV := Aside0.mk (below_step HBW.out hb)
  have HB2 := Aside0.mk (below_step HB.out HBV.out)
  have HG2 := Aside0.mk (blk_below HG1.out hb)
  have HL2 := Aside0.mk (blk_below HL1.out hb)
  have HZ2 := Aside0.mk (blk_below HZ1.out hb)
  have gb0 := (blk_cell HG2.out) 0
  have gb1 := (blk_cell HG2.out) 1
  have gb2 := (blk_cell HG2.out) 2
  have gb3 := (blk_cell HG2.out) 3
  have gb4 := (blk_cell HG2.out) 4
  have gb5 := (blk_cell HG2.out) 5
  have gb6 := (blk_cell HG2.out) 6
  have gb7 := (blk_cell HG2.out) 7
  have gbf0 := free_of HG2.out 0
  have gbf1 := free_of HG2.out 1
  have gbf2 := free_of HG2.out 2
  have gbf3 := free_of HG2.out 3
  have gbf4 := free_of HG2.out 4
  have gbf5 := free_of HG2.out 5
  have gbf6 := free_of HG2.out 6
  have gbf7 := free_of HG2.out 7
  clear hb K3 ha ga0 ga1 ga2 ga3 ga4 ga5 ga6 ga7 la0 la1 la2 la3 la4 la5 za0 za1 za2 za3 za4 za5 za6 za7 zaf0 zaf1 zaf2 zaf3 zaf4 zaf5 zaf6 zaf7
  have K4 := Aside0.mk (KO.out w2 HBV.out)
  clear KO
  go_upto_region 8 with (fail)
  go_cut [28] (fun v28 wx => ∃ V' : SV, Aside0 (wx.heap[w.heap.size]? = some (.cells (stv V' s) 34 (0, 0))) ∧ Aside0 (StR wx w.heap.size V' s) ∧ Aside0 (StA V') ∧ Aside0 (wx.heap[w.heap.size + 1]? = some (.cells #[.int .i64 r.kind, .int .i64 r.step, .slice Bf r.pl.1.length df, .slice Bt r.pl.2.1.length dt, .slice Bs r.pl.2.2.1.length ds, .slice Bb r.pl.2.2.2.length db] 39 (0, 0))) ∧ Aside0 (wx.heap[w.heap.size + 2]? = some (.cells z8 34 (0, 0))) ∧ Aside0 (Below w.heap.size w wx))
  case first =>
    go_wp2_with (fail)
    refine K4.out.mono ?_
    rintro e w3 ⟨V', rfl, hr, hap, hb⟩
    have HG3 := Aside0.mk (blk_below HG2.out hb)
    have HL3 := Aside0.mk (blk_below HL2.out hb)
    have HZ3 := Aside0.mk (blk_below HZ2.out hb)
    have HB3 := Aside0.mk (below_step HB2.out hb)
    have HAP := Aside0.mk hap
    have HR3 := Aside0.mk (hr.lower (base' := w.heap.size) (below_size HB2.out))
    obtain ⟨A0, d0, A1, d1, A2, d2, A3, d3, A4, d4, A5, d5, rfl⟩ := hr.opened
    have gc0 := (blk_cell HG3.out) 0
    have gc1 := (blk_cell HG3.out) 1
    have gc2 := (blk_cell HG3.out) 2
    have gc3 := (blk_cell HG3.out) 3
    have gc4 := (blk_cell HG3.out) 4
    have gc5 := (blk_cell HG3.out) 5
    have gc6 := (blk_cell HG3.out) 6
    have gc7 := (blk_cell HG3.out) 7
    have gcf0 := free_of HG3.out 0
    have gcf1 := free_of HG3.out 1
    have gcf2 := free_of HG3.out 2
    have gcf3 := free_of HG3.out 3
    have gcf4 := free_of HG3.out 4
    have gcf5 := free_of HG3.out 5
    have gcf6 := free_of HG3.out 6
    have gcf7 := free_of HG3.out 7
    clear hb hr hap K4 gb0 gb1 gb2 gb3 gb4 gb5 gb6 gb7 gbf0 gbf1 gbf2 gbf3 gbf4 gbf5 gbf6 gbf7
    unfold stv
    dsimp only
    go_wp2_with (fail)
    go_meet
    have hne : ∀ (q : Nat) (W : World) (o : Nat) (v : Value), q ≠ w.heap.size → (W.setCell ⟨w.heap.size, o, none⟩ v).heap[q]? = W.heap[q]? := fun q W o v h => Below.heap_setCell W ⟨w.heap.size, o, none⟩ v q h
    refine ⟨⟨⟨.slice A0 s.pl.1.length d0, .slice A1 s.pl.2.1.length d1, .slice A2 s.pl.2.2.1.length d2, .slice A3 s.pl.2.2.2.length d3⟩, .slice A4 s.op.length d4, .slice A5 s.dn.length d5⟩, ⟨?_⟩, ⟨?_⟩, HAP, ⟨?_⟩, ⟨?_⟩, ⟨?_⟩⟩
    · exact box8 HG3.out _ _ _ _ _ _ _ _
    · exact StR_sets (T := 34) (by decide) [(0, .int .i64 s.num), (1, .int .i64 s.ph), (2, .slice A0 s.pl.1.length d0), (3, .slice A1 s.pl.2.1.length d1), (4, .slice A2 s.pl.2.2.1.length d2), (5, .slice A3 s.pl.2.2.2.length d3), (6, .slice A4 s.op.length d4), (7, .slice A5 s.dn.length d5)] _ _ HG3.out HR3.out
    · rw [hne _ _ _ _ (by omega), hne _ _ _ _ (by omega), hne _ _ _ _ (by omega), hne _ _ _ _ (by omega), hne _ _ _ _ (by omega), hne _ _ _ _ (by omega), hne _ _ _ _ (by omega), hne _ _ _ _ (by omega)]
      exact HL3.out
    · rw [hne _ _ _ _ (by omega), hne _ _ _ _ (by omega), hne _ _ _ _ (by omega), hne _ _ _ _ (by omega), hne _ _ _ _ (by omega), hne _ _ _ _ (by omega), hne _ _ _ _ (by omega), hne _ _ _ _ (by omega)]
      exact HZ3.out
    · exact Below_sets (Nat.le_refl _) [(0, .int .i64 s.num), (1, .int .i64 s.ph), (2, .slice A0 s.pl.1.length d0), (3, .slice A1 s.pl.2.1.length d1), (4, .slice A2 s.pl.2.2.1.length d2), (5, .slice A3 s.pl.2.2.2.length d3), (6, .slice A4 s.op.length d4), (7, .slice A5 s.dn.length d5)] _ HB3.out
  case rest =>
    obtain ⟨V', HG3, HR3, HAP, HL3, HZ3, HB3⟩ := hcut
    clear gb0 gb1 gb2 gb3 gb4 gb5 gb6 gb7 gbf0 gbf1 gbf2 gbf3 gbf4 gbf5 gbf6 gbf7 HG HG1 HG2 HL HL1 HL2 HZ HZ1 HZ2 HB HB2 HBV HBW K4 KF KW
    obtain ⟨A0, d0, A1, d1, A2, d2, A3, d3, A4, d4, A5, d5, rfl⟩ := HR3.out.opened
    unfold stv at HG3
    dsimp only at HG3
    unfold z8 at HZ3
    have gc0 := (blk_cell HG3.out) 0
    have gc1 := (blk_cell HG3.out) 1
    have gc2 := (blk_cell HG3.out) 2
    have gc3 := (blk_cell HG3.out) 3
    have gc4 := (blk_cell HG3.out) 4
    have gc5 := (blk_cell HG3.out) 5
    have gc6 := (blk_cell HG3.out) 6
    have gc7 := (blk_cell HG3.out) 7
    have gcf0 := free_of HG3.out 0
    have gcf1 := free_of HG3.out 1
    have gcf2 := free_of HG3.out 2
    have gcf3 := free_of HG3.out 3
    have gcf4 := free_of HG3.out 4
    have gcf5 := free_of HG3.out 5
    have gcf6 := free_of HG3.out 6
    have gcf7 := free_of HG3.out 7
    have lc0 := (blk_cell HL3.out) 0
    have lc1 := (blk_cell HL3.out) 1
    have lc2 := (blk_cell HL3.out) 2
    have lc3 := (blk_cell HL3.out) 3
    have lc4 := (blk_cell HL3.out) 4
    have lc5 := (blk_cell HL3.out) 5
    have zc0 := (blk_cell HZ3.out) 0
    have zc1 := (blk_cell HZ3.out) 1
    have zc2 := (blk_cell HZ3.out) 2
    have zc3 := (blk_cell HZ3.out) 3
    have zc4 := (blk_cell HZ3.out) 4
    have zc5 := (blk_cell HZ3.out) 5
    have zc6 := (blk_cell HZ3.out) 6
    have zc7 := (blk_cell HZ3.out) 7
    have zcf0 := free_of HZ3.out 0
    have zcf1 := free_of HZ3.out 1
    have zcf2 := free_of HZ3.out 2
    have zcf3 := free_of HZ3.out 3
    have zcf4 := free_of HZ3.out 4
    have zcf5 := free_of HZ3.out 5
    have zcf6 := free_of HZ3.out 6
    have zcf7 := free_of HZ3.out 7
    go_upto_block 1 with (fail)
    go_cut [] (fun wx => Aside0 (Turned w (turn s r) wx))
    case first =>
      have hk8 : r.kind = 1 ∨ r.kind = 2 ∨ r.kind = 3 ∨ r.kind = 4 ∨ r.kind = 5 ∨ r.kind = 6 ∨ r.kind = 7 ∨ r.kind = 8 := by
        unfold formed at hf
        rw [Bool.and_eq_true, Bool.and_eq_true] at hf
        have := of_decide_eq_true hf.1.1
        omega
      clear hf
      rcases hk8 with hk | hk | hk | hk | hk | hk | hk | hk
      · -- kind 1
        have HK := Aside0.mk hk
        have b1 : (r.kind == 1) = true := by rw [hk]; rfl
        clear hk
        have HTU : Aside0 (turn s r = ⟨s.num + 1, 1, r.pl, [], []⟩) := ⟨by unfold turn; rw [HK.out]; rfl⟩
        have K5 := Aside0.mk (copied_T U r.pl wc.drew (HU0.out.below (below_drew1 HB3.out)) HHQ.out)
        rw [HPL.out] at K5
        unfold plv at K5
        have HE2 : Aside0 (IntKind.i64.wrap (s.num + 1) = s.num + 1) := ⟨IntWalk.i64_in _ (by have := HHN.out; omega)⟩
        go_wp2_with (fail)
        go_region_law (first
          | (go_simp; go_at_call 45; go_must (refine K5.out.mono ?_; rintro e w5 ⟨⟨c0, c1, c2, c3⟩, rfl, hr, hb⟩; obtain ⟨C0, e0, rfl⟩ : ∃ A c, c0 = .slice A r.pl.1.length c := Kd.R_slice hr.1; obtain ⟨C1, e1', rfl⟩ : ∃ A c, c1 = .slice A r.pl.2.1.length c := Kd.R_slice hr.2.1; obtain ⟨C2, e2, rfl⟩ : ∃ A c, c2 = .slice A r.pl.2.2.1.length c := Kd.R_slice hr.2.2.1; obtain ⟨C3, e3, rfl⟩ : ∃ A c, c3 = .slice A r.pl.2.2.2.length c := Kd.R_slice hr.2.2.2; have HG5 := Aside0.mk (blk_below (blk_drew HG3.out) hb); have HZ5 := Aside0.mk (blk_below (blk_drew HZ3.out) hb); have HB5 := Aside0.mk (below_step (below_drew1 HB3.out) hb); have HP5 := Aside0.mk (hr.lower (base' := w.heap.size) (below_size (below_drew1 HB3.out))); have gd0 := (blk_cell HG5.out) 0; have gdf0 := free_of HG5.out 0; have gd1 := (blk_cell HG5.out) 1; have gdf1 := free_of HG5.out 1; have gd2 := (blk_cell HG5.out) 2; have gdf2 := free_of HG5.out 2; have gd3 := (blk_cell HG5.out) 3; have gdf3 := free_of HG5.out 3; have gd4 := (blk_cell HG5.out) 4; have gdf4 := free_of HG5.out 4; have gd5 := (blk_cell HG5.out) 5; have gdf5 := free_of HG5.out 5; have gd6 := (blk_cell HG5.out) 6; have gdf6 := free_of HG5.out 6; have gd7 := (blk_cell HG5.out) 7; have gdf7 := free_of HG5.out 7; clear K5 hr hb)))
        all_goals
          go_wp2_with (fail)
          go_meet
          rw [HTU.out, HE2.out]
          exact ⟨Turned.mk' (s := s) (V := ⟨⟨.slice A0 s.pl.1.length d0, .slice A1 s.pl.2.1.length d1, .slice A2 s.pl.2.2.1.length d2, .slice A3 s.pl.2.2.2.length d3⟩, .slice A4 s.op.length d4, .slice A5 s.dn.length d5⟩) (V' := ⟨⟨.slice C0 r.pl.1.length e0, .slice C1 r.pl.2.1.length e1', .slice C2 r.pl.2.2.1.length e2, .slice C3 r.pl.2.2.2.length e3⟩, .slice none 0 0, .slice none 0 0⟩) [(0, .int .i64 (s.num + 1)), (1, .int .i64 1), (2, .slice C0 r.pl.1.length e0), (3, .slice C1 r.pl.2.1.length e1'), (4, .slice C2 r.pl.2.2.1.length e2), (5, .slice C3 r.pl.2.2.2.length e3), (6, .slice none 0 0), (7, .slice none 0 0)] HG5.out (box8 HG5.out _ _ _ _ _ _ _ _) ⟨HP5.out, Kd.R_nil _ _ _ _ _, Kd.R_nil _ _ _ _ _⟩ HZ5.out HB5.out⟩
      · -- kind 2
        have HK := Aside0.mk hk
        have b1 : (r.kind == 1) = false := by rw [hk]; rfl
        have b2 : (r.kind == 2) = true := by rw [hk]; rfl
        clear hk
        have HTU : Aside0 (turn s r = { s with op := s.op ++ [r.step] }) := ⟨by unfold turn; rw [HK.out]; rfl⟩
        have HO3 := Aside0.mk HR3.out.2.1
        go_wp2_with (first
          | ((with_reducible refine gate_dst (N := 46) rfl ?_); refine Kd.R_lit kI wc.heap.size 3 ?hg (N := 46) ?hd (xs := [r.step]) (inner := [.int .i64 r.step]) (ok := fun _ => True) (okp := fun _ => True) ?hr ?hp (fun _ hk => hk) trivial (Below.refl _ _) (Nat.le_refl _) (by simp) ?_; (case hd => rfl); (case hg => rfl); (case hr => first | (go_simp; done) | (go_simp; rfl)); (case hp => exact (Reps.one (show Kd.M kI _ _ _ r.step [.int .i64 r.step] from rfl) (Reps.none _ _))); intro v43 w7 ho hb hg_ hnew_; clear hg_ hnew_; obtain ⟨A43, c43, rfl, hcl43, hC43⟩ := Kd.R_reads ho; have HC43 := Aside0.mk hC43; have HO1 := Aside0.mk (Kd.R_below HO3.out hb); have HR7 := Aside0.mk (HR3.out.below hb); have HG7 := Aside0.mk (blk_below HG3.out hb); have HZ7 := Aside0.mk (blk_below HZ3.out hb); have HB7 := Aside0.mk (below_step HB3.out hb); clear ho hb hC43 hcl43)
          | ((with_reducible refine gate_builtin (b := .append) (xs := #[.tmp 43, .tmp 46]) rfl ?_); at_builtin; refine Kd.R_append_row (Value.int .i64) 0 (h1 := fun _ => rfl) (w0 := w) w.heap.size rfl (.tmp 43) (.tmp 46) 22 3 (.int .i64 0) 8 rfl Tryd.underlying22 info_int rfl (by decide) (.slice A4 s.op.length d4) s.op [r.step] A43 1 c43 (fun _ => True) rfl rfl (fun _ _ => trivial) HO1.out HC43.out HB7.out (below_size HB7.out) (by have := HHO.out; omega) ?_; intro v44 w8 ho hb hgr hat; obtain ⟨A44, c44, rfl⟩ := Kd.R_slice ho; rw [len_snoc'] at ho ⊢; have HG8 := Aside0.mk (blk_grown HG7.out hgr (Kd.R_ne HO1.out HG7.out (by decide))); have HZ8 := Aside0.mk (blk_grown HZ7.out hgr (Kd.R_ne HO1.out HZ7.out (by decide))); have HO8 := Aside0.mk ho; have HB8 := Aside0.mk hb; have HGR := Aside0.mk hgr; have gf8 := free_of HG8.out 6; have gq8 := (blk_cell HG8.out) 6; clear ho hb hgr hat))
        go_meet
        rw [HTU.out]
        have ha := HAP.out.o
        have hR : StR w8 w.heap.size ⟨⟨.slice A0 s.pl.1.length d0, .slice A1 s.pl.2.1.length d1, .slice A2 s.pl.2.2.1.length d2, .slice A3 s.pl.2.2.2.length d3⟩, .slice A44 (s.op.length + 1) c44, .slice A5 s.dn.length d5⟩ { s with op := s.op ++ [r.step] } := ⟨⟨R_apart HR7.out.1.1 rfl HGR.out (ha _ (by simp)), R_apart HR7.out.1.2.1 rfl HGR.out (ha _ (by simp)), R_apart HR7.out.1.2.2.1 rfl HGR.out (ha _ (by simp)), R_apart HR7.out.1.2.2.2 rfl HGR.out (ha _ (by simp))⟩, HO8.out, R_apart HR7.out.2.2 rfl HGR.out (ha _ (by simp))⟩
        exact ⟨Turned.mk' (s := s) (V := ⟨⟨.slice A0 s.pl.1.length d0, .slice A1 s.pl.2.1.length d1, .slice A2 s.pl.2.2.1.length d2, .slice A3 s.pl.2.2.2.length d3⟩, .slice A4 s.op.length d4, .slice A5 s.dn.length d5⟩) (V' := ⟨⟨.slice A0 s.pl.1.length d0, .slice A1 s.pl.2.1.length d1, .slice A2 s.pl.2.2.1.length d2, .slice A3 s.pl.2.2.2.length d3⟩, .slice A44 (s.op.length + 1) c44, .slice A5 s.dn.length d5⟩) [(6, .slice A44 (s.op.length + 1) c44)] HG8.out (box6 HG8.out (.slice A44 (s.op.length + 1) c44)) hR HZ8.out HB8.out⟩
      · -- kind 3
        have HK := Aside0.mk hk
        have b1 : (r.kind == 1) = false := by rw [hk]; rfl
        have b2 : (r.kind == 2) = false := by rw [hk]; rfl
        have b3 : (r.kind == 3) = true := by rw [hk]; rfl
        clear hk
        have HTU : Aside0 (turn s r = { s with op := without r.step s.op, dn := s.dn ++ [r.step] }) := ⟨by unfold turn; rw [HK.out]; rfl⟩
        obtain ⟨_, ho1, ho2⟩ := Kd.R_reads' HR3.out.2.1
        have HDB := Aside0.mk (below_drew (Below.refl wc.heap.size wc))
        have HDL := Aside0.mk (below_alloc (below_drew (Below.refl wc.heap.size wc)) (.cells #[.int .i64 r.step] 3))
        have HLT := Aside0.mk (lit_int0 wc.drew r.step 3)
        have K5 := Aside0.mk (fun W' (hb : Below wc.heap.size wc W') => drop_T s.op A4 d4 r.step W' (Kd.C_below ho2 hb) ho1 (by have := HHO.out; omega))
        clear ho1 ho2
        go_wp2_with (fail)
        refine wp_region_part (S := fun w' => w'.cell? ⟨w.heap.size, 6, none⟩ = some (.slice A4 s.op.length d4) ∧ w'.cell? ⟨w.heap.size, 7, none⟩ = some (.slice A5 s.dn.length d5) ∧ w'.cell? ⟨w.heap.size + 1, 1, none⟩ = some (.int .i64 r.step)) 12 (by kernel_rfl) (by kernel_rfl) ⟨(blk_cell (blk_drew HG3.out)) 6, (blk_cell (blk_drew HG3.out)) 7, (blk_cell (blk_drew HL3.out)) 1⟩ (fun hHeld => ?_)
        simp only [List.take_succ_cons, List.take_zero]
        refine wpAnyH_take (i := 0) (oi := { dst := _, op := _, type := _, pos := _, after := _, guard := _ }) (v := ?_) rfl (by kernel_rfl) (by kernel_rfl) (by kernel_rfl) (fun _ _ _ h => h) (Or.inl ⟨by rfl, ?_⟩) (by assumption) ?_
        rotate_left
        · (intro wq hSw; (try dsimp only at hSw); go_simp <;> with_reducible rfl)
        (try simp only [Act.put, List.setIfInBounds_toArray, List.set_cons_zero, List.set_cons_succ])
        refine wpAnyH_take (i := 1) (oi := { dst := _, op := _, type := _, pos := _, after := _, guard := _ }) (v := ?_) rfl (by kernel_rfl) (by kernel_rfl) (by kernel_rfl) (fun _ _ _ h => h) (Or.inl ⟨by rfl, ?_⟩) (by assumption) ?_
        rotate_left
        · (intro wq hSw; (try dsimp only at hSw); go_simp <;> with_reducible rfl)
        (try simp only [Act.put, List.setIfInBounds_toArray, List.set_cons_zero, List.set_cons_succ])
        refine wpAnyH_take (i := 2) (oi := { dst := _, op := _, type := _, pos := _, after := _, guard := _ }) (v := ?_) rfl (by kernel_rfl) (by kernel_rfl) (by kernel_rfl) (fun _ _ _ h => h) (Or.inl ⟨by rfl, ?_⟩) (by assumption) ?_
        rotate_left
        · (intro wq hSw; (try dsimp only at hSw); go_simp <;> with_reducible rfl)
        (try simp only [Act.put, List.setIfInBounds_toArray, List.set_cons_zero, List.set_cons_succ])
        refine wpAnyH_take (i := 3) (oi := { dst := _, op := _, type := _, pos := _, after := _, guard := _ }) (v := ?_) rfl (by kernel_rfl) (by kernel_rfl) (by kernel_rfl) (fun _ _ _ h => h) (Or.inl ⟨by rfl, ?_⟩) (by assumption) ?_
        rotate_left
        · (intro wq hSw; (try dsimp only at hSw); go_simp <;> with_reducible rfl)
        (try simp only [Act.put, List.setIfInBounds_toArray, List.set_cons_zero, List.set_cons_succ])
        refine wpAnyH_take (i := 5) (oi := { dst := _, op := _, type := _, pos := _, after := _, guard := _ }) (v := ?_) rfl (by kernel_rfl) (by kernel_rfl) (by kernel_rfl) (fun _ _ _ h => h) (Or.inl ⟨by rfl, ?_⟩) (by assumption) ?_
        rotate_left
        · (intro wq hSw; (try dsimp only at hSw); go_simp <;> with_reducible rfl)
        (try simp only [Act.put, List.setIfInBounds_toArray, List.set_cons_zero, List.set_cons_succ])
        refine wpAnyH_take (i := 6) (oi := { dst := _, op := _, type := _, pos := _, after := _, guard := _ }) (v := ?_) rfl (by kernel_rfl) (by kernel_rfl) (by kernel_rfl) (fun _ _ _ h => h) (Or.inl ⟨by rfl, ?_⟩) (by assumption) ?_
        rotate_left
        · (intro wq hSw; (try dsimp only at hSw); go_simp <;> with_reducible rfl)
        (try simp only [Act.put, List.setIfInBounds_toArray, List.set_cons_zero, List.set_cons_succ])
        refine wpAnyH_take (i := 7) (oi := { dst := _, op := _, type := _, pos := _, after := _, guard := _ }) (v := ?_) rfl (by kernel_rfl) (by kernel_rfl) (by kernel_rfl) (fun _ _ _ h => h) (Or.inl ⟨by rfl, ?_⟩) (by assumption) ?_
        rotate_left
        · (intro wq hSw; (try dsimp only at hSw); go_simp <;> with_reducible rfl)
        (try simp only [Act.put, List.setIfInBounds_toArray, List.set_cons_zero, List.set_cons_succ])
        refine wpAnyH_take (i := 8) (oi := { dst := _, op := _, type := _, pos := _, after := _, guard := _ }) (v := ?_) rfl (by kernel_rfl) (by kernel_rfl) (by kernel_rfl) (fun _ _ _ h => h) (Or.inl ⟨by rfl, ?_⟩) (by assumption) ?_
        rotate_left
        · (intro wq hSw; (try dsimp only at hSw); go_simp <;> with_reducible rfl)
        (try simp only [Act.put, List.setIfInBounds_toArray, List.set_cons_zero, List.set_cons_succ])
        refine wpAnyH_ready (rs := [4, 9]) (by kernel_rfl) (by simp) ?_
        refine AllReadyH.cons (o := { dst := _, op := _, type := _, pos := _, after := _, guard := _ }) rfl (fun K hK => ?_) ?_
        rotate_left
        refine AllReadyH.cons (o := { dst := _, op := _, type := _, pos := _, after := _, guard := _ }) rfl (fun K hK => ?_) AllReadyH.nil
        rotate_left
        · -- the call, then the literal
          go_simp
          go_at_call 46
          refine (K5.out wc.drew HDB.out).mono ?_
          rintro e w5 ⟨v5, rfl, hr, hb⟩
          have HWB := Aside0.mk (below_step HDB.out hb)
          have HO5 := Aside0.mk (Kd.R_lower hr HDB.out.size)
          have HG5 := Aside0.mk (blk_below HG3.out HWB.out)
          have HL5 := Aside0.mk (blk_below HL3.out HWB.out)
          have HZ5 := Aside0.mk (blk_below HZ3.out HWB.out)
          have HB5 := Aside0.mk (below_step HB3.out HWB.out)
          have HR5 := Aside0.mk (HR3.out.below HWB.out)
          obtain ⟨C0, e0, rfl⟩ := Kd.R_slice hr
          clear hr hb hHeld
          refine hK.out _ _ ⟨(blk_cell HG5.out) 6, (blk_cell HG5.out) 7, (blk_cell HL5.out) 1⟩ (fun hHeld => ?_)
          clear hK K
          (try simp only [Act.put, List.setIfInBounds_toArray, List.set_cons_zero, List.set_cons_succ])
          refine wpAnyH_take (i := 11) (oi := { dst := _, op := _, type := _, pos := _, after := _, guard := _ }) (v := ?_) rfl (by kernel_rfl) (by kernel_rfl) (by kernel_rfl) (fun _ _ _ h => h) (Or.inl ⟨by rfl, ?_⟩) (by assumption) ?_
          rotate_left
          · (intro wq hSw; (try dsimp only at hSw); go_simp <;> with_reducible rfl)
          (try simp only [Act.put, List.setIfInBounds_toArray, List.set_cons_zero, List.set_cons_succ])
          refine wpAnyH_ready (rs := [9]) (by kernel_rfl) (by simp) ?_
          refine AllReadyH.cons (o := { dst := _, op := _, type := _, pos := _, after := _, guard := _ }) rfl (fun K hK => ?_) ?_
          rotate_left
          · exact AllReadyH.nil
          go_simp
          refine hK.out _ _ ⟨(blk_cell (blk_alloc HG5.out (.cells #[.int .i64 r.step] 3))) 6, (blk_cell (blk_alloc HG5.out (.cells #[.int .i64 r.step] 3))) 7, (blk_cell (blk_alloc HL5.out (.cells #[.int .i64 r.step] 3))) 1⟩ (fun hHeld => ?_)
          clear hK K
          (try simp only [Act.put, List.setIfInBounds_toArray, List.set_cons_zero, List.set_cons_succ])
          refine wpAnyH_ready (rs := [10]) (by kernel_rfl) (by simp) ?_
          refine AllReadyH.cons (o := { dst := _, op := _, type := _, pos := _, after := _, guard := _ }) rfl (fun K hK => ?_) ?_
          rotate_left
          · exact AllReadyH.nil
          have HD7 := Aside0.mk (Kd.R_alloc HR5.out.2.2 (.cells #[.int .i64 r.step] 3))
          have HR7 := Aside0.mk (HR5.out.below (below_alloc (Below.refl _ w5) (.cells #[.int .i64 r.step] 3)))
          have HO7 := Aside0.mk (Kd.R_alloc HO5.out (.cells #[.int .i64 r.step] 3))
          have HG7 := Aside0.mk (blk_alloc HG5.out (.cells #[.int .i64 r.step] 3))
          have HL7 := Aside0.mk (blk_alloc HL5.out (.cells #[.int .i64 r.step] 3))
          have HZ7 := Aside0.mk (blk_alloc HZ5.out (.cells #[.int .i64 r.step] 3))
          have HB7 := Aside0.mk (below_alloc HB5.out (.cells #[.int .i64 r.step] 3))
          have HLA := Aside0.mk (lit_int0 w5 r.step 3)
          refine Kd.R_append_rows_step kI (w0 := w) w.heap.size (by simp [Region.wanted]) (.tmp 57) (.tmp 60) 22 3 (.int .i64 0) 8 rfl Tryd.underlying22 info_int rfl (by decide) (by decide) (.slice A5 s.dn.length d5) s.dn [r.step] (some ⟨w5.heap.size, 0, none⟩) 1 1 (fun _ => True) (fun k => some k ≠ (Value.slice A5 s.dn.length d5).ownBlock) (by simp [Act.eval, Act.put]) (by simp [Act.eval, Act.put]) HD7.out HLA.out (fun p cs h => h) (fun k hk => ⟨trivial, hk⟩) (fun k hk => trivial) HB7.out (below_size HB7.out) (by have := HHD.out; omega) ?_
          intro v44 w8 ho hb hgr hat
          obtain ⟨A44, c44, rfl⟩ := Kd.R_slice ho
          rw [len_snoc'] at ho ⊢
          have HG8 := Aside0.mk (blk_grown HG7.out hgr (Kd.R_ne HD7.out HG7.out (by decide)))
          have HL8 := Aside0.mk (blk_grown HL7.out hgr (Kd.R_ne HD7.out HL7.out (by decide)))
          have HZ8 := Aside0.mk (blk_grown HZ7.out hgr (Kd.R_ne HD7.out HZ7.out (by decide)))
          have HD8 := Aside0.mk ho
          have HB8 := Aside0.mk hb
          have HGR := Aside0.mk hgr
          clear ho hb hgr hat hHeld
          refine hK.out _ _ ⟨(blk_cell HG8.out) 6, (blk_cell HG8.out) 7, (blk_cell HL8.out) 1⟩ (fun hHeld => ?_)
          clear hK K hHeld
          (try simp only [Act.put, List.setIfInBounds_toArray, List.set_cons_zero, List.set_cons_succ])
          refine wpAnyH_done (by kernel_rfl) ?_ _
          refine Part.norm ?_
          simp only [List.drop_succ_cons, List.drop_zero]
          have gf6 := free_of HG8.out 6
          have gf7 := free_of HG8.out 7
          have gq6 := (blk_cell HG8.out) 6
          have gq7 := (blk_cell HG8.out) 7
          go_wp2_with (fail)
          go_meet
          rw [HTU.out]
          have ha := HAP.out.d
          have hR : StR w8 w.heap.size ⟨⟨.slice A0 s.pl.1.length d0, .slice A1 s.pl.2.1.length d1, .slice A2 s.pl.2.2.1.length d2, .slice A3 s.pl.2.2.2.length d3⟩, .slice C0 (without r.step s.op).length e0, .slice A44 (s.dn.length + 1) c44⟩ { s with op := without r.step s.op, dn := s.dn ++ [r.step] } := ⟨⟨R_apart HR7.out.1.1 rfl HGR.out (ha _ (by simp)), R_apart HR7.out.1.2.1 rfl HGR.out (ha _ (by simp)), R_apart HR7.out.1.2.2.1 rfl HGR.out (ha _ (by simp)), R_apart HR7.out.1.2.2.2 rfl HGR.out (ha _ (by simp))⟩, R_apart (Kd.R_lower HO7.out HB3.out.size) rfl HGR.out (fun k hk e => by have h1 := Kd.R_base HO7.out k e; have h2 := Kd.R_lt HR3.out.2.2 k hk; omega), HD8.out⟩
          exact ⟨Turned.mk' (s := s) (V := ⟨⟨.slice A0 s.pl.1.length d0, .slice A1 s.pl.2.1.length d1, .slice A2 s.pl.2.2.1.length d2, .slice A3 s.pl.2.2.2.length d3⟩, .slice A4 s.op.length d4, .slice A5 s.dn.length d5⟩) (V' := ⟨⟨.slice A0 s.pl.1.length d0, .slice A1 s.pl.2.1.length d1, .slice A2 s.pl.2.2.1.length d2, .slice A3 s.pl.2.2.2.length d3⟩, .slice C0 (without r.step s.op).length e0, .slice A44 (s.dn.length + 1) c44⟩) [(6, .slice C0 (without r.step s.op).length e0), (7, .slice A44 (s.dn.length + 1) c44)] HG8.out (box67 HG8.out (.slice C0 (without r.step s.op).length e0) (.slice A44 (s.dn.length + 1) c44)) hR HZ8.out HB8.out⟩
        · -- the literal, then the call
          go_simp
          refine hK.out _ _ ⟨(blk_cell (blk_alloc (blk_drew HG3.out) (.cells #[.int .i64 r.step] 3))) 6, (blk_cell (blk_alloc (blk_drew HG3.out) (.cells #[.int .i64 r.step] 3))) 7, (blk_cell (blk_alloc (blk_drew HL3.out) (.cells #[.int .i64 r.step] 3))) 1⟩ (fun hHeld => ?_)
          clear hK K
          (try simp only [Act.put, List.setIfInBounds_toArray, List.set_cons_zero, List.set_cons_succ])
          refine wpAnyH_ready (rs := [4]) (by kernel_rfl) (by simp) ?_
          refine AllReadyH.cons (o := { dst := _, op := _, type := _, pos := _, after := _, guard := _ }) rfl (fun K hK => ?_) ?_
          rotate_left
          · exact AllReadyH.nil
          go_simp
          go_at_call 46
          refine (K5.out (wc.drew.alloc (.cells #[.int .i64 r.step] 3)) HDL.out).mono ?_
          rintro e w5 ⟨v5, rfl, hr, hb⟩
          have HWB := Aside0.mk (below_step HDL.out hb)
          have HO5 := Aside0.mk (Kd.R_lower hr HDL.out.size)
          have HLB := Aside0.mk (ReadsRow.imp_ HLT.out hb (fun _ _ h => h))
          have HG5 := Aside0.mk (blk_below HG3.out HWB.out)
          have HL5 := Aside0.mk (blk_below HL3.out HWB.out)
          have HZ5 := Aside0.mk (blk_below HZ3.out HWB.out)
          have HB5 := Aside0.mk (below_step HB3.out HWB.out)
          have HR5 := Aside0.mk (HR3.out.below HWB.out)
          obtain ⟨C0, e0, rfl⟩ := Kd.R_slice hr
          clear hr hb hHeld
          refine hK.out _ _ ⟨(blk_cell HG5.out) 6, (blk_cell HG5.out) 7, (blk_cell HL5.out) 1⟩ (fun hHeld => ?_)
          clear hK K
          (try simp only [Act.put, List.setIfInBounds_toArray, List.set_cons_zero, List.set_cons_succ])
          refine wpAnyH_take (i := 11) (oi := { dst := _, op := _, type := _, pos := _, after := _, guard := _ }) (v := ?_) rfl (by kernel_rfl) (by kernel_rfl) (by kernel_rfl) (fun _ _ _ h => h) (Or.inl ⟨by rfl, ?_⟩) (by assumption) ?_
          rotate_left
          · (intro wq hSw; (try dsimp only at hSw); go_simp <;> with_reducible rfl)
          (try simp only [Act.put, List.setIfInBounds_toArray, List.set_cons_zero, List.set_cons_succ])
          refine wpAnyH_ready (rs := [10]) (by kernel_rfl) (by simp) ?_
          refine AllReadyH.cons (o := { dst := _, op := _, type := _, pos := _, after := _, guard := _ }) rfl (fun K hK => ?_) ?_
          rotate_left
          · exact AllReadyH.nil
          have HD7 := Aside0.mk HR5.out.2.2
          have HR7 := HR5
          have HO7 := HO5
          have HG7 := HG5
          have HL7 := HL5
          have HZ7 := HZ5
          have HB7 := HB5
          refine Kd.R_append_rows_step kI (w0 := w) w.heap.size (by simp [Region.wanted]) (.tmp 57) (.tmp 60) 22 3 (.int .i64 0) 8 rfl Tryd.underlying22 info_int rfl (by decide) (by decide) (.slice A5 s.dn.length d5) s.dn [r.step] (some ⟨wc.drew.heap.size, 0, none⟩) 1 1 (fun _ => True) (fun k => some k ≠ (Value.slice A5 s.dn.length d5).ownBlock) (by simp [Act.eval, Act.put]) (by simp [Act.eval, Act.put]) HD7.out HLB.out (fun p cs h => h) (fun k hk => ⟨trivial, hk⟩) (fun k hk => trivial) HB7.out (below_size HB7.out) (by have := HHD.out; omega) ?_
          intro v44 w8 ho hb hgr hat
          obtain ⟨A44, c44, rfl⟩ := Kd.R_slice ho
          rw [len_snoc'] at ho ⊢
          have HG8 := Aside0.mk (blk_grown HG7.out hgr (Kd.R_ne HD7.out HG7.out (by decide)))
          have HL8 := Aside0.mk (blk_grown HL7.out hgr (Kd.R_ne HD7.out HL7.out (by decide)))
          have HZ8 := Aside0.mk (blk_grown HZ7.out hgr (Kd.R_ne HD7.out HZ7.out (by decide)))
          have HD8 := Aside0.mk ho
          have HB8 := Aside0.mk hb
          have HGR := Aside0.mk hgr
          clear ho hb hgr hat hHeld
          refine hK.out _ _ ⟨(blk_cell HG8.out) 6, (blk_cell HG8.out) 7, (blk_cell HL8.out) 1⟩ (fun hHeld => ?_)
          clear hK K hHeld
          (try simp only [Act.put, List.setIfInBounds_toArray, List.set_cons_zero, List.set_cons_succ])
          refine wpAnyH_done (by kernel_rfl) ?_ _
          refine Part.norm ?_
          simp only [List.drop_succ_cons, List.drop_zero]
          have gf6 := free_of HG8.out 6
          have gf7 := free_of HG8.out 7
          have gq6 := (blk_cell HG8.out) 6
          have gq7 := (blk_cell HG8.out) 7
          go_wp2_with (fail)
          go_meet
          rw [HTU.out]
          have ha := HAP.out.d
          have hR : StR w8 w.heap.size ⟨⟨.slice A0 s.pl.1.length d0, .slice A1 s.pl.2.1.length d1, .slice A2 s.pl.2.2.1.length d2, .slice A3 s.pl.2.2.2.length d3⟩, .slice C0 (without r.step s.op).length e0, .slice A44 (s.dn.length + 1) c44⟩ { s with op := without r.step s.op, dn := s.dn ++ [r.step] } := ⟨⟨R_apart HR7.out.1.1 rfl HGR.out (ha _ (by simp)), R_apart HR7.out.1.2.1 rfl HGR.out (ha _ (by simp)), R_apart HR7.out.1.2.2.1 rfl HGR.out (ha _ (by simp)), R_apart HR7.out.1.2.2.2 rfl HGR.out (ha _ (by simp))⟩, R_apart (Kd.R_lower HO7.out HB3.out.size) rfl HGR.out (fun k hk e => by have h1 := Kd.R_base HO7.out k e; have h2 := Kd.R_lt HR3.out.2.2 k hk; omega), HD8.out⟩
          exact ⟨Turned.mk' (s := s) (V := ⟨⟨.slice A0 s.pl.1.length d0, .slice A1 s.pl.2.1.length d1, .slice A2 s.pl.2.2.1.length d2, .slice A3 s.pl.2.2.2.length d3⟩, .slice A4 s.op.length d4, .slice A5 s.dn.length d5⟩) (V' := ⟨⟨.slice A0 s.pl.1.length d0, .slice A1 s.pl.2.1.length d1, .slice A2 s.pl.2.2.1.length d2, .slice A3 s.pl.2.2.2.length d3⟩, .slice C0 (without r.step s.op).length e0, .slice A44 (s.dn.length + 1) c44⟩) [(6, .slice C0 (without r.step s.op).length e0), (7, .slice A44 (s.dn.length + 1) c44)] HG8.out (box67 HG8.out (.slice C0 (without r.step s.op).length e0) (.slice A44 (s.dn.length + 1) c44)) hR HZ8.out HB8.out⟩
      · -- kind 4
        have HK := Aside0.mk hk
        have b1 : (r.kind == 1) = false := by rw [hk]; rfl
        have b2 : (r.kind == 2) = false := by rw [hk]; rfl
        have b3 : (r.kind == 3) = false := by rw [hk]; rfl
        have b4 : (r.kind == 4) = true := by rw [hk]; rfl
        clear hk
        have HTU : Aside0 (turn s r = { s with ph := 2 }) := ⟨by unfold turn; rw [HK.out]; rfl⟩
        go_wp2_with (fail)
        go_meet
        rw [HTU.out]
        exact ⟨Turned.mk' (s := s) (V := ⟨⟨.slice A0 s.pl.1.length d0, .slice A1 s.pl.2.1.length d1, .slice A2 s.pl.2.2.1.length d2, .slice A3 s.pl.2.2.2.length d3⟩, .slice A4 s.op.length d4, .slice A5 s.dn.length d5⟩) (V' := ⟨⟨.slice A0 s.pl.1.length d0, .slice A1 s.pl.2.1.length d1, .slice A2 s.pl.2.2.1.length d2, .slice A3 s.pl.2.2.2.length d3⟩, .slice A4 s.op.length d4, .slice A5 s.dn.length d5⟩) [(1, .int .i64 2)] HG3.out (box1 HG3.out (.int .i64 2)) ⟨HR3.out.1, HR3.out.2.1, HR3.out.2.2⟩ HZ3.out HB3.out⟩
      · -- kind 5
        have HK := Aside0.mk hk
        have b1 : (r.kind == 1) = false := by rw [hk]; rfl
        have b2 : (r.kind == 2) = false := by rw [hk]; rfl
        have b3 : (r.kind == 3) = false := by rw [hk]; rfl
        have b4 : (r.kind == 4) = false := by rw [hk]; rfl
        have b5 : (r.kind == 5) = true := by rw [hk]; rfl
        clear hk
        have HTU : Aside0 (turn s r = { s with ph := 2 }) := ⟨by unfold turn; rw [HK.out]; rfl⟩
        go_wp2_with (fail)
        go_meet
        rw [HTU.out]
        exact ⟨Turned.mk' (s := s) (V := ⟨⟨.slice A0 s.pl.1.length d0, .slice A1 s.pl.2.1.length d1, .slice A2 s.pl.2.2.1.length d2, .slice A3 s.pl.2.2.2.length d3⟩, .slice A4 s.op.length d4, .slice A5 s.dn.length d5⟩) (V' := ⟨⟨.slice A0 s.pl.1.length d0, .slice A1 s.pl.2.1.length d1, .slice A2 s.pl.2.2.1.length d2, .slice A3 s.pl.2.2.2.length d3⟩, .slice A4 s.op.length d4, .slice A5 s.dn.length d5⟩) [(1, .int .i64 2)] HG3.out (box1 HG3.out (.int .i64 2)) ⟨HR3.out.1, HR3.out.2.1, HR3.out.2.2⟩ HZ3.out HB3.out⟩
      · -- kind 6
        have HK := Aside0.mk hk
        have b1 : (r.kind == 1) = false := by rw [hk]; rfl
        have b2 : (r.kind == 2) = false := by rw [hk]; rfl
        have b3 : (r.kind == 3) = false := by rw [hk]; rfl
        have b4 : (r.kind == 4) = false := by rw [hk]; rfl
        have b5 : (r.kind == 5) = false := by rw [hk]; rfl
        have b6 : (r.kind == 6) = true := by rw [hk]; rfl
        clear hk
        have HTU : Aside0 (turn s r = { s with op := without r.step s.op, dn := without r.step s.dn }) := ⟨by unfold turn; rw [HK.out]; rfl⟩
        obtain ⟨_, ho1, ho2⟩ := Kd.R_reads' HR3.out.2.1
        obtain ⟨_, hd1, hd2⟩ := Kd.R_reads' HR3.out.2.2
        have K5 := Aside0.mk (drop_T s.op A4 d4 r.step wc.drew (Kd.C_drew ho2) ho1 (by have := HHO.out; omega))
        have K6 := Aside0.mk (fun W' (hb : Below wc.drew.heap.size wc.drew W') => drop_T s.dn A5 d5 r.step W' (Kd.C_below (Kd.C_drew hd2) hb) hd1 (by have := HHD.out; omega))
        clear ho1 ho2 hd1 hd2
        go_wp2_with (fail)
        refine wp_region_part (S := fun w' => w'.cell? ⟨w.heap.size, 6, none⟩ = some (.slice A4 s.op.length d4) ∧ w'.cell? ⟨w.heap.size, 7, none⟩ = some (.slice A5 s.dn.length d5) ∧ w'.cell? ⟨w.heap.size + 1, 1, none⟩ = some (.int .i64 r.step)) 11 (by kernel_rfl) (by kernel_rfl) ⟨(blk_cell (blk_drew HG3.out)) 6, (blk_cell (blk_drew HG3.out)) 7, (blk_cell (blk_drew HL3.out)) 1⟩ (fun hHeld => ?_)
        simp only [List.take_succ_cons, List.take_zero]
        refine wpAnyH_take (i := 0) (oi := { dst := _, op := _, type := _, pos := _, after := _, guard := _ }) (v := ?_) rfl (by kernel_rfl) (by kernel_rfl) (by kernel_rfl) (fun _ _ _ h => h) (Or.inl ⟨by rfl, ?_⟩) (by assumption) ?_
        rotate_left
        · (intro wq hSw; (try dsimp only at hSw); go_simp <;> with_reducible rfl)
        (try simp only [Act.put, List.setIfInBounds_toArray, List.set_cons_zero, List.set_cons_succ])
        refine wpAnyH_take (i := 1) (oi := { dst := _, op := _, type := _, pos := _, after := _, guard := _ }) (v := ?_) rfl (by kernel_rfl) (by kernel_rfl) (by kernel_rfl) (fun _ _ _ h => h) (Or.inl ⟨by rfl, ?_⟩) (by assumption) ?_
        rotate_left
        · (intro wq hSw; (try dsimp only at hSw); go_simp <;> with_reducible rfl)
        (try simp only [Act.put, List.setIfInBounds_toArray, List.set_cons_zero, List.set_cons_succ])
        refine wpAnyH_take (i := 2) (oi := { dst := _, op := _, type := _, pos := _, after := _, guard := _ }) (v := ?_) rfl (by kernel_rfl) (by kernel_rfl) (by kernel_rfl) (fun _ _ _ h => h) (Or.inl ⟨by rfl, ?_⟩) (by assumption) ?_
        rotate_left
        · (intro wq hSw; (try dsimp only at hSw); go_simp <;> with_reducible rfl)
        (try simp only [Act.put, List.setIfInBounds_toArray, List.set_cons_zero, List.set_cons_succ])
        refine wpAnyH_take (i := 3) (oi := { dst := _, op := _, type := _, pos := _, after := _, guard := _ }) (v := ?_) rfl (by kernel_rfl) (by kernel_rfl) (by kernel_rfl) (fun _ _ _ h => h) (Or.inl ⟨by rfl, ?_⟩) (by assumption) ?_
        rotate_left
        · (intro wq hSw; (try dsimp only at hSw); go_simp <;> with_reducible rfl)
        (try simp only [Act.put, List.setIfInBounds_toArray, List.set_cons_zero, List.set_cons_succ])
        refine wpAnyH_take (i := 5) (oi := { dst := _, op := _, type := _, pos := _, after := _, guard := _ }) (v := ?_) rfl (by kernel_rfl) (by kernel_rfl) (by kernel_rfl) (fun _ _ _ h => h) (Or.inl ⟨by rfl, ?_⟩) (by assumption) ?_
        rotate_left
        · (intro wq hSw; (try dsimp only at hSw); go_simp <;> with_reducible rfl)
        (try simp only [Act.put, List.setIfInBounds_toArray, List.set_cons_zero, List.set_cons_succ])
        refine wpAnyH_take (i := 6) (oi := { dst := _, op := _, type := _, pos := _, after := _, guard := _ }) (v := ?_) rfl (by kernel_rfl) (by kernel_rfl) (by kernel_rfl) (fun _ _ _ h => h) (Or.inl ⟨by rfl, ?_⟩) (by assumption) ?_
        rotate_left
        · (intro wq hSw; (try dsimp only at hSw); go_simp <;> with_reducible rfl)
        (try simp only [Act.put, List.setIfInBounds_toArray, List.set_cons_zero, List.set_cons_succ])
        refine wpAnyH_take (i := 7) (oi := { dst := _, op := _, type := _, pos := _, after := _, guard := _ }) (v := ?_) rfl (by kernel_rfl) (by kernel_rfl) (by kernel_rfl) (fun _ _ _ h => h) (Or.inl ⟨by rfl, ?_⟩) (by assumption) ?_
        rotate_left
        · (intro wq hSw; (try dsimp only at hSw); go_simp <;> with_reducible rfl)
        (try simp only [Act.put, List.setIfInBounds_toArray, List.set_cons_zero, List.set_cons_succ])
        refine wpAnyH_take (i := 8) (oi := { dst := _, op := _, type := _, pos := _, after := _, guard := _ }) (v := ?_) rfl (by kernel_rfl) (by kernel_rfl) (by kernel_rfl) (fun _ _ _ h => h) (Or.inl ⟨by rfl, ?_⟩) (by assumption) ?_
        rotate_left
        · (intro wq hSw; (try dsimp only at hSw); go_simp <;> with_reducible rfl)
        (try simp only [Act.put, List.setIfInBounds_toArray, List.set_cons_zero, List.set_cons_succ])
        refine wpAnyH_ready (rs := [4]) (by kernel_rfl) (by simp) ?_
        refine AllReadyH.cons (o := { dst := _, op := _, type := _, pos := _, after := _, guard := _ }) rfl (fun K hK => ?_) ?_
        rotate_left
        · exact AllReadyH.nil
        go_simp
        go_at_call 46
        refine K5.out.mono ?_
        rintro e w5 ⟨v5, rfl, hr, hb⟩
        obtain ⟨C0, e0, rfl⟩ := Kd.R_slice hr
        have HG5 := Aside0.mk (blk_below (blk_drew HG3.out) hb)
        have HL5 := Aside0.mk (blk_below (blk_drew HL3.out) hb)
        have HZ5 := Aside0.mk (blk_below (blk_drew HZ3.out) hb)
        have HB5 := Aside0.mk (below_step (below_drew1 HB3.out) hb)
        have HO5 := Aside0.mk (Kd.R_lower (base' := w.heap.size) hr (below_size (below_drew1 HB3.out)))
        have K7 := Aside0.mk (K6.out w5 hb)
        have HPB := Aside0.mk hb
        clear K5 K6 hr hb hHeld
        refine hK.out _ _ ⟨(blk_cell HG5.out) 6, (blk_cell HG5.out) 7, (blk_cell HL5.out) 1⟩ (fun hHeld => ?_)
        clear hK K
        (try simp only [Act.put, List.setIfInBounds_toArray, List.set_cons_zero, List.set_cons_succ])
        refine wpAnyH_take (i := 10) (oi := { dst := _, op := _, type := _, pos := _, after := _, guard := _ }) (v := ?_) rfl (by kernel_rfl) (by kernel_rfl) (by kernel_rfl) (fun _ _ _ h => h) (Or.inl ⟨by rfl, ?_⟩) (by assumption) ?_
        rotate_left
        · (intro wq hSw; (try dsimp only at hSw); go_simp <;> with_reducible rfl)
        (try simp only [Act.put, List.setIfInBounds_toArray, List.set_cons_zero, List.set_cons_succ])
        refine wpAnyH_ready (rs := [9]) (by kernel_rfl) (by simp) ?_
        refine AllReadyH.cons (o := { dst := _, op := _, type := _, pos := _, after := _, guard := _ }) rfl (fun K hK => ?_) ?_
        rotate_left
        · exact AllReadyH.nil
        go_simp
        go_at_call 46
        refine K7.out.mono ?_
        rintro e w6 ⟨v6, rfl, hr, hb⟩
        obtain ⟨C1, e1', rfl⟩ := Kd.R_slice hr
        have HG6 := Aside0.mk (blk_below HG5.out hb)
        have HL6 := Aside0.mk (blk_below HL5.out hb)
        have HZ6 := Aside0.mk (blk_below HZ5.out hb)
        have HB6 := Aside0.mk (below_step HB5.out hb)
        have HO6 := Aside0.mk (Kd.R_below HO5.out hb)
        have HD6 := Aside0.mk (Kd.R_lower (base' := w.heap.size) hr (below_size HB5.out))
        have HR6 := Aside0.mk ((HR3.out.1.below (below_drew (Below.refl _ wc))).below (Below.trans HPB.out (hb.mono HPB.out.size)))
        clear K7 hr hb hHeld
        refine hK.out _ _ ⟨(blk_cell HG6.out) 6, (blk_cell HG6.out) 7, (blk_cell HL6.out) 1⟩ (fun hHeld => ?_)
        clear hK K hHeld
        (try simp only [Act.put, List.setIfInBounds_toArray, List.set_cons_zero, List.set_cons_succ])
        refine wpAnyH_done (by kernel_rfl) ?_ _
        refine Part.norm ?_
        simp only [List.drop_succ_cons, List.drop_zero]
        have hr6 := (blk_cell HG6.out) 6
        have hr7 := (blk_cell HG6.out) 7
        have hf6 := free_of HG6.out 6
        have hf7 := free_of HG6.out 7
        go_wp2_with (fail)
        go_meet
        rw [HTU.out]
        exact ⟨Turned.mk' (s := s) (V := ⟨⟨.slice A0 s.pl.1.length d0, .slice A1 s.pl.2.1.length d1, .slice A2 s.pl.2.2.1.length d2, .slice A3 s.pl.2.2.2.length d3⟩, .slice A4 s.op.length d4, .slice A5 s.dn.length d5⟩) (V' := ⟨⟨.slice A0 s.pl.1.length d0, .slice A1 s.pl.2.1.length d1, .slice A2 s.pl.2.2.1.length d2, .slice A3 s.pl.2.2.2.length d3⟩, .slice C0 (without r.step s.op).length e0, .slice C1 (without r.step s.dn).length e1'⟩) [(6, .slice C0 (without r.step s.op).length e0), (7, .slice C1 (without r.step s.dn).length e1')] HG6.out (box67 HG6.out (.slice C0 (without r.step s.op).length e0) (.slice C1 (without r.step s.dn).length e1')) ⟨HR6.out, HO6.out, HD6.out⟩ HZ6.out HB6.out⟩
      · -- kind 7
        have HK := Aside0.mk hk
        have b1 : (r.kind == 1) = false := by rw [hk]; rfl
        have b2 : (r.kind == 2) = false := by rw [hk]; rfl
        have b3 : (r.kind == 3) = false := by rw [hk]; rfl
        have b4 : (r.kind == 4) = false := by rw [hk]; rfl
        have b5 : (r.kind == 5) = false := by rw [hk]; rfl
        have b6 : (r.kind == 6) = false := by rw [hk]; rfl
        have b7 : (r.kind == 7) = true := by rw [hk]; rfl
        clear hk
        have HTU : Aside0 (turn s r = { s with ph := 3 }) := ⟨by unfold turn; rw [HK.out]; rfl⟩
        go_wp2_with (fail)
        go_meet
        rw [HTU.out]
        exact ⟨Turned.mk' (s := s) (V := ⟨⟨.slice A0 s.pl.1.length d0, .slice A1 s.pl.2.1.length d1, .slice A2 s.pl.2.2.1.length d2, .slice A3 s.pl.2.2.2.length d3⟩, .slice A4 s.op.length d4, .slice A5 s.dn.length d5⟩) (V' := ⟨⟨.slice A0 s.pl.1.length d0, .slice A1 s.pl.2.1.length d1, .slice A2 s.pl.2.2.1.length d2, .slice A3 s.pl.2.2.2.length d3⟩, .slice A4 s.op.length d4, .slice A5 s.dn.length d5⟩) [(1, .int .i64 3)] HG3.out (box1 HG3.out (.int .i64 3)) ⟨HR3.out.1, HR3.out.2.1, HR3.out.2.2⟩ HZ3.out HB3.out⟩
      · -- kind 8
        have HK := Aside0.mk hk
        have b1 : (r.kind == 1) = false := by rw [hk]; rfl
        have b2 : (r.kind == 2) = false := by rw [hk]; rfl
        have b3 : (r.kind == 3) = false := by rw [hk]; rfl
        have b4 : (r.kind == 4) = false := by rw [hk]; rfl
        have b5 : (r.kind == 5) = false := by rw [hk]; rfl
        have b6 : (r.kind == 6) = false := by rw [hk]; rfl
        have b7 : (r.kind == 7) = false := by rw [hk]; rfl
        have b8 : (r.kind == 8) = true := by rw [hk]; rfl
        clear hk
        have HTU : Aside0 (turn s r = { s with ph := if s.ph = 3 then 4 else if s.ph = 2 then 5 else 0 }) := ⟨by unfold turn; rw [HK.out]; rfl⟩
        have hmm := @run_makeMap Tryd.prog
        have hz3 := zero3
        obtain ⟨E, hE⟩ : ∃ E : Int, (if s.ph = 3 then 4 else if s.ph = 2 then 5 else 0) = E := ⟨_, rfl⟩
        rw [hE] at HTU
        have HE := Aside0.mk hE
        clear hE
        obtain ⟨bm, hbm⟩ : ∃ b, wc.heap.size = b := ⟨_, rfl⟩
        have HM0 := Aside0.mk (IMap.IM.made (q := .i64) wc)
        have hba := below_alloc HB3.out (.map #[] 0)
        have HBA := Aside0.mk hba
        have HGA := Aside0.mk (blk_alloc HG3.out (.map #[] 0))
        have HZA := Aside0.mk (blk_alloc HZ3.out (.map #[] 0))
        have HRA := Aside0.mk (HR3.out.below (below_alloc (Below.refl _ wc) (.map #[] 0)))
        have HNE : Aside0 (w.heap.size ≠ wc.heap.size ∧ w.heap.size + 2 ≠ wc.heap.size ∧ w.heap.size ≤ wc.heap.size) := ⟨by have := blk_lt HG3.out; have := blk_lt HZ3.out; omega⟩
        clear hba hbm
        go_wp2_with (first
          | (refine at_ins (P := Tryd.prog) (q := .i64) rfl (.tmp 87) (.const (.int .i64 3)) (.const (.int .i64 4)) 86 rfl Tryd.underlying86 Tryd.underlying3 rfl HM0.out 3 (.int .i64 4) rfl rfl ?_; intro ob1 h1; have HM1 := Aside0.mk h1; have HG1' := Aside0.mk ((IMap.heap_set_other ob1 HNE.out.1 _).trans HGA.out); have HZ1' := Aside0.mk ((IMap.heap_set_other ob1 HNE.out.2.1 _).trans HZA.out); have HB1' := Aside0.mk (IMap.below_set HBA.out HNE.out.2.2 ob1); have HC1 := Aside0.mk (IMap.below_set (below_alloc (Below.refl wc.heap.size wc) (.map #[] 0)) (Nat.le_refl wc.heap.size) ob1); obtain ⟨W1, hW1⟩ : ∃ W, ChangeMaps.setBlock (wc.alloc (.map #[] 0)) wc.heap.size ob1 = W := ⟨_, rfl⟩; rw [hW1] at HM1 HG1' HZ1' HB1' HC1 ⊢; have HW1 := Aside0.mk hW1; clear h1 hW1 HM0)
          | (refine at_ins (P := Tryd.prog) (q := .i64) rfl (.tmp 87) (.const (.int .i64 2)) (.const (.int .i64 5)) 86 rfl Tryd.underlying86 Tryd.underlying3 rfl HM1.out 2 (.int .i64 5) rfl rfl ?_; intro ob2 h1; have HM2 := Aside0.mk h1; have HG2' := Aside0.mk ((IMap.heap_set_other ob2 HNE.out.1 _).trans HG1'.out); have HZ2' := Aside0.mk ((IMap.heap_set_other ob2 HNE.out.2.1 _).trans HZ1'.out); have HB2' := Aside0.mk (IMap.below_set HB1'.out HNE.out.2.2 ob2); have HC2 := Aside0.mk (IMap.below_set HC1.out (Nat.le_refl wc.heap.size) ob2); obtain ⟨W2, hW2⟩ : ∃ W, ChangeMaps.setBlock W1 wc.heap.size ob2 = W := ⟨_, rfl⟩; rw [hW2] at HM2 HG2' HZ2' HB2' HC2 ⊢; have HW2 := Aside0.mk hW2; have gm1 := (blk_cell HG2'.out) 1; have gmf1 := free_of HG2'.out 1; clear h1 hW2 HM1)
          | (refine IMap.at_look (P := Tryd.prog) (q := .i64) rfl (.tmp 88) (.tmp 90) 86 false rfl Tryd.underlying86 Tryd.underlying3 (hz3 _) rfl HM2.out s.ph rfl ?_; simp only [Bool.false_eq_true, if_false]; rw [get_32, HE.out]))
        go_meet
        rw [HTU.out]
        have hR := HR3.out.below HC2.out
        exact ⟨Turned.mk' (s := s) (V := ⟨⟨.slice A0 s.pl.1.length d0, .slice A1 s.pl.2.1.length d1, .slice A2 s.pl.2.2.1.length d2, .slice A3 s.pl.2.2.2.length d3⟩, .slice A4 s.op.length d4, .slice A5 s.dn.length d5⟩) (V' := ⟨⟨.slice A0 s.pl.1.length d0, .slice A1 s.pl.2.1.length d1, .slice A2 s.pl.2.2.1.length d2, .slice A3 s.pl.2.2.2.length d3⟩, .slice A4 s.op.length d4, .slice A5 s.dn.length d5⟩) [(1, .int .i64 E)] HG2'.out (box1 HG2'.out (.int .i64 E)) ⟨hR.1, hR.2.1, hR.2.2⟩ HZ2'.out HB2'.out⟩
    case rest =>
      obtain ⟨V2, HG4, HR4, HZ4, HB4⟩ := hcut.out
      obtain ⟨E0, f0, E1, f1, E2, f2, E3, f3, E4, f4, E5, f5, rfl⟩ := HR4.opened
      have HR4' := Aside0.mk HR4
      have HB4' := Aside0.mk HB4
      have HZ4' := Aside0.mk HZ4
      unfold stv at HG4
      dsimp only at HG4
      unfold z8 at HZ4
      clear hcut gc0 gc1 gc2 gc3 gc4 gc5 gc6 gc7 gcf0 gcf1 gcf2 gcf3 gcf4 gcf5 gcf6 gcf7 lc0 lc1 lc2 lc3 lc4 lc5 zc0 zc1 zc2 zc3 zc4 zc5 zc6 zc7 zcf0 zcf1 zcf2 zcf3 zcf4 zcf5 zcf6 zcf7 HR4 HB4
      have ge0 := (blk_cell HG4) 0
      have ge1 := (blk_cell HG4) 1
      have ge2 := (blk_cell HG4) 2
      have ge3 := (blk_cell HG4) 3
      have ge4 := (blk_cell HG4) 4
      have ge5 := (blk_cell HG4) 5
      have ge6 := (blk_cell HG4) 6
      have ge7 := (blk_cell HG4) 7
      have ze0 := (blk_cell HZ4) 0
      have ze1 := (blk_cell HZ4) 1
      have ze2 := (blk_cell HZ4) 2
      have ze3 := (blk_cell HZ4) 3
      have ze4 := (blk_cell HZ4) 4
      have ze5 := (blk_cell HZ4) 5
      have ze6 := (blk_cell HZ4) 6
      have ze7 := (blk_cell HZ4) 7
      have zef0 := free_of HZ4 0
      have zef1 := free_of HZ4 1
      have zef2 := free_of HZ4 2
      have zef3 := free_of HZ4 3
      have zef4 := free_of HZ4 4
      have zef5 := free_of HZ4 5
      have zef6 := free_of HZ4 6
      have zef7 := free_of HZ4 7
      clear HG4 HZ4
      go_wp2
      refine bodyPost_ret (v := .tuple #[.agg #[.int .i64 (turn s r).num, .int .i64 (turn s r).ph, .slice E0 (turn s r).pl.1.length f0, .slice E1 (turn s r).pl.2.1.length f1, .slice E2 (turn s r).pl.2.2.1.length f2, .slice E3 (turn s r).pl.2.2.2.length f3, .slice E4 (turn s r).op.length f4, .slice E5 (turn s r).dn.length f5], .int .i64 0]) (by simp [results, Tryd.results17, go_sem, ze0, ze1, ze2, ze3, ze4, ze5, ze6, ze7]) rfl ?_
      refine ⟨⟨⟨.slice E0 (turn s r).pl.1.length f0, .slice E1 (turn s r).pl.2.1.length f1, .slice E2 (turn s r).pl.2.2.1.length f2, .slice E3 (turn s r).pl.2.2.2.length f3⟩, .slice E4 (turn s r).op.length f4, .slice E5 (turn s r).dn.length f5⟩, rfl, ?_, ?_⟩
      · exact StR_sets (T := 34) (by decide) [(0, .int .i64 (turn s r).num), (1, .int .i64 (turn s r).ph), (2, .slice E0 (turn s r).pl.1.length f0), (3, .slice E1 (turn s r).pl.2.1.length f1), (4, .slice E2 (turn s r).pl.2.2.1.length f2), (5, .slice E3 (turn s r).pl.2.2.2.length f3), (6, .slice E4 (turn s r).op.length f4), (7, .slice E5 (turn s r).dn.length f5)] _ _ HZ4'.out HR4'.out
      · exact Below_sets (Nat.le_add_right _ 2) [(0, .int .i64 (turn s r).num), (1, .int .i64 (turn s r).ph), (2, .slice E0 (turn s r).pl.1.length f0), (3, .slice E1 (turn s r).pl.2.1.length f1), (4, .slice E2 (turn s r).pl.2.2.1.length f2), (5, .slice E3 (turn s r).pl.2.2.2.length f3), (6, .slice E4 (turn s r).op.length f4), (7, .slice E5 (turn s r).dn.length f5)] _ HB4'.out
end Go.Proofs.YtplhihakeodadaaDoor.Sg
