/- saga: the law SagaClosed, walked. (written by gen_closed.py) -/
import Derived.Test.YtplhihakeodadaaDoorSgCl
import Derived.Test.YtplhihakeodadaaDoorSgFun7
namespace Go.Proofs.YtplhihakeodadaaDoor.Sg
open Go Go.RowKit Go.Proofs.YtplhihakeodadaaDoorW.PrintWords Go.Proofs.YtplhihakeodadaaDoorW.PrintLast Go.Proofs.YtplhihakeodadaaDoorW.PrintMore
set_option linter.unusedVariables false
set_option linter.unusedSimpArgs false
theorem nodup_at {a : List Int} {l : List Int} {i : Nat} (h : (a ++ l).Nodup) (hi : i < l.length) : l.getD i 0 ∉ a ++ l.take i := by
  have h1 : l = l.take i ++ (l.getD i 0 :: l.drop (i + 1)) := by
    conv => lhs; rw [← List.take_append_drop i l, List.drop_eq_getElem_cons hi]
    simp [hi]
  rw [h1, ← List.append_assoc] at h
  intro hm
  have h1' : (a ++ l.take i ++ (l.getD i 0 :: l.drop (i + 1))).Nodup := h
  exact (List.nodup_append.1 h1').2.2 _ hm _ List.mem_cons_self rfl
set_option maxHeartbeats 32000000 in
set_option maxRecDepth 20000 in
theorem SagaClosed_main (l : List RR) (A : Option Addr) (c : Nat) (w : World) (hT : TabW w) (h : Recs w A l) (hl : l.length ≤ 9223372036854775807) :
    Calls Tryd.prog 5 #[.slice A l.length c] w fun e w' => e = .returned (.bool true) ∧ Below w.heap.size w w' := by
  have HT := Aside0.mk hT
  have HR := Aside0.mk h
  have K1 := Aside0.mk (anchor_T w hT)
  have K2 := Aside0.mk (fun W (hb : Below w.heap.size w W) => small_T l A c 60 W (h.below hb) hl)
  obtain ⟨B, hB⟩ : ∃ B, smallB l 60 = B := ⟨_, rfl⟩
  simp only [hB] at K2
  have HSB := Aside0.mk hB
  clear hT h hl hB
  go_enter Tryd.func5, Tryd.ntmps5
  go_wp2_with (fail)
  refine K1.out.mono ?_
  rintro e w1 ⟨rfl, hb⟩
  have K3 := Aside0.mk (K2.out w1 hb)
  have HB1 := Aside0.mk hb
  clear K1 K2 hb
  go_wp2_with (fail)
  refine K3.out.mono ?_
  rintro e w2 ⟨rfl, hb⟩
  have HB2 := Aside0.mk (below_step HB1.out hb)
  clear K3 hb
  cases B with
  | false =>
    go_wp2
    go_ret
    exact ⟨rfl, HB2.out⟩
  | true =>
    have hsm := HSB.out
    unfold smallB at hsm
    rw [Bool.and_eq_true, List.all_eq_true, decide_eq_true_eq] at hsm
    have HP := Aside0.mk hsm.1
    have HL : Aside0 (l.length ≤ 60) := ⟨by have := hsm.2; omega⟩
    clear hsm
    have HB0 := Aside0.mk (below_step HB2.out (below_alloc (Below.refl w2.heap.size w2) (.cells z8 34)))
    have HG0 := Aside0.mk (heap_last w2 (.cells z8 34))
    have HZ : Aside0 (stv sv0 ss0 = z8) := ⟨rfl⟩
    have HWW : Aside0 (w.heap.size ≤ w2.heap.size) := ⟨below_size HB2.out⟩
    unfold z8 at HB0 HG0 HZ
    go_wp2
    go_loopg [22] l.length (fun kq v22 w' => ∃ (i : Nat) (s : SS) (V : SV), v22 = .int .i64 (i : Int) ∧ Aside0 (i + kq = l.length) ∧ Aside0 (Bd i s) ∧ Aside0 (Cl s) ∧ Aside0 (w'.heap[w2.heap.size]? = some (.cells (stv V s) 34 (0, 0))) ∧ Aside0 (StR w' w2.heap.size V s) ∧ Aside0 (Below w.heap.size w w') ∧ Aside0 (w2.heap.size ≤ w'.heap.size))
    case atStart =>
      refine ⟨0, ss0, sv0, rfl, ⟨by omega⟩, ⟨Bd.zero 0⟩, ⟨Cl.zero⟩, ⟨?_⟩, ⟨StR.zero _ _⟩, HB0, ⟨?_⟩⟩
      · rw [HZ.out]; exact HG0.out
      · rw [World.size_alloc]; omega
    case round =>
      clear HB0 HG0
      obtain ⟨i, s, V, rfl, HJ, HD, HCL, HG, HV, HB, HSZ⟩ := hrel
      obtain ⟨Af, cf, At, ct, As, cs, Ab, cb, Ao, co, Ad, cd, hV⟩ := HV.out.opened
      have hstv : stv V s = #[.int .i64 s.num, .int .i64 s.ph, .slice Af s.pl.1.length cf, .slice At s.pl.2.1.length ct, .slice As s.pl.2.2.1.length cs, .slice Ab s.pl.2.2.2.length cb, .slice Ao s.op.length co, .slice Ad s.dn.length cd] := by rw [hV]; rfl
      have HSV := Aside0.mk hstv
      rw [hstv] at HG
      clear hV hstv
      by_cases c1 : i < l.length
      · have e1 : decide (i < l.length) = true := decide_eq_true c1
        have HE5 : Aside0 (wrap64 ((i : Int) + 1) = ((i + 1 : Nat) : Int)) := ⟨by have := HL.out; unfold wrap64; omega⟩
        obtain ⟨ad, ea, hat⟩ := HR.out i c1
        cases ea
        have HM : Aside0 (okPlan (l.getD i rr0).pl = true) := ⟨HP.out _ (getD_mem c1 _)⟩
        obtain ⟨r, hr⟩ : ∃ r, l.getD i rr0 = r := ⟨_, rfl⟩
        rw [hr] at hat HM
        have HI := Aside0.mk c1
        obtain ⟨Bf, df, Bt, dt, Bs, ds, Bb, db, hu, q0, q1, q2, q3, q4, q5⟩ := (hat.below HB.out).opened
        have hb2 := below_alloc (Below.refl wr.heap.size wr) (.cells #[.int .i64 r.kind, .int .i64 r.step, .slice Bf r.pl.1.length df, .slice Bt r.pl.2.1.length dt, .slice Bs r.pl.2.2.1.length ds, .slice Bb r.pl.2.2.2.length db] 39)
        have HW2 := Aside0.mk (heap_last wr (.cells #[.int .i64 r.kind, .int .i64 r.step, .slice Bf r.pl.1.length df, .slice Bt r.pl.2.1.length dt, .slice Bs r.pl.2.2.1.length ds, .slice Bb r.pl.2.2.2.length db] 39))
        have HG2 := Aside0.mk (blk_below HG.out hb2)
        have HB2' := Aside0.mk (below_step HB.out hb2)
        have HSZ2 : Aside0 (w2.heap.size ≤ (wr.alloc (.cells #[.int .i64 r.kind, .int .i64 r.step, .slice Bf r.pl.1.length df, .slice Bt r.pl.2.1.length dt, .slice Bs r.pl.2.2.1.length ds, .slice Bb r.pl.2.2.2.length db] 39)).heap.size) := ⟨Nat.le_trans HSZ.out hb2.size⟩
        have HV2 := Aside0.mk (HV.out.below hb2)
        have K := Aside0.mk (Take_T V s ⟨.slice Bf r.pl.1.length df, .slice Bt r.pl.2.1.length dt, .slice Bs r.pl.2.2.1.length ds, .slice Bb r.pl.2.2.2.length db⟩ r (wr.alloc (.cells #[.int .i64 r.kind, .int .i64 r.step, .slice Bf r.pl.1.length df, .slice Bt r.pl.2.1.length dt, .slice Bs r.pl.2.2.1.length ds, .slice Bb r.pl.2.2.2.length db] 39)) (HT.out.below HB2'.out) HV2.out.c (hu.below hb2) HM.out (Bd.le HD.out (by have := HL.out; omega)))
        rw [HSV.out] at K
        unfold rrv at K
        dsimp only at K
        have hg0 := (blk_cell HG2.out) 0
        have hg1 := (blk_cell HG2.out) 1
        have hg2 := (blk_cell HG2.out) 2
        have hg3 := (blk_cell HG2.out) 3
        have hg4 := (blk_cell HG2.out) 4
        have hg5 := (blk_cell HG2.out) 5
        have hg6 := (blk_cell HG2.out) 6
        have hg7 := (blk_cell HG2.out) 7
        have hgf0 := free_of HG2.out 0
        have hgf1 := free_of HG2.out 1
        have hgf2 := free_of HG2.out 2
        have hgf3 := free_of HG2.out 3
        have hgf4 := free_of HG2.out 4
        have hgf5 := free_of HG2.out 5
        have hgf6 := free_of HG2.out 6
        have hgf7 := free_of HG2.out 7
        have hw0 := (blk_cell HW2.out) 0
        have hw1 := (blk_cell HW2.out) 1
        have hw2 := (blk_cell HW2.out) 2
        have hw3 := (blk_cell HW2.out) 3
        have hw4 := (blk_cell HW2.out) 4
        have hw5 := (blk_cell HW2.out) 5
        obtain ⟨s1, hs1⟩ : ∃ s1, (take s r).1 = s1 := ⟨_, rfl⟩
        obtain ⟨E1, hE1⟩ : ∃ E1, (take s r).2 = E1 := ⟨_, rfl⟩
        rw [hs1, hE1] at K
        have HE1 := Aside0.mk hE1
        have HS1 := Aside0.mk hs1
        have HBD : Aside0 (Bd (i + 1) s1) := ⟨hs1 ▸ Bd.take HD.out HM.out⟩
        clear hs1 hE1 hr hat hb2 hu
        go_wp2_with (fail)
        refine K.out.mono ?_
        rintro e w3 ⟨V1, rfl, hr3, hb3⟩
        have HB3 := Aside0.mk (below_step HB2'.out hb3)
        have HG3 := Aside0.mk (blk_below HG2.out hb3)
        have HV3 := Aside0.mk (HV2.out.below hb3)
        have HSZ3 : Aside0 (w2.heap.size ≤ w3.heap.size) := ⟨Nat.le_trans HSZ2.out hb3.size⟩
        have HR3 := Aside0.mk (hr3.lower (base' := w2.heap.size) HSZ2.out)
        obtain ⟨Cf, ef, Ct, et, Cs, es, Cb, eb, Co, eo, Cd, ed, rfl⟩ := hr3.opened
        have hb4 := below_alloc (Below.refl w3.heap.size w3) (.cells #[.int .i64 s1.num, .int .i64 s1.ph, .slice Cf s1.pl.1.length ef, .slice Ct s1.pl.2.1.length et, .slice Cs s1.pl.2.2.1.length es, .slice Cb s1.pl.2.2.2.length eb, .slice Co s1.op.length eo, .slice Cd s1.dn.length ed] 34)
        have HG4 := Aside0.mk (blk_below HG3.out hb4)
        have HB4 := Aside0.mk (below_step HB3.out hb4)
        have HV4 := Aside0.mk (HV3.out.below hb4)
        have HR4 := Aside0.mk (HR3.out.below hb4)
        have HSZ4 : Aside0 (w2.heap.size ≤ (w3.alloc (.cells #[.int .i64 s1.num, .int .i64 s1.ph, .slice Cf s1.pl.1.length ef, .slice Ct s1.pl.2.1.length et, .slice Cs s1.pl.2.2.1.length es, .slice Cb s1.pl.2.2.2.length eb, .slice Co s1.op.length eo, .slice Cd s1.dn.length ed] 34)).heap.size) := ⟨Nat.le_trans HSZ3.out hb4.size⟩
        have HN4 := Aside0.mk (heap_last w3 (.cells #[.int .i64 s1.num, .int .i64 s1.ph, .slice Cf s1.pl.1.length ef, .slice Ct s1.pl.2.1.length et, .slice Cs s1.pl.2.2.1.length es, .slice Cb s1.pl.2.2.2.length eb, .slice Co s1.op.length eo, .slice Cd s1.dn.length ed] 34))
        clear K hr3 hb3 hb4 q0 q1 q2 q3 q4 q5 hg0 hgf0 hg1 hgf1 hg2 hgf2 hg3 hgf3 hg4 hgf4 hg5 hgf5 hg6 hgf6 hg7 hgf7 hw0 hw1 hw2 hw3 hw4 hw5
        have hk0 := (blk_cell HG4.out) 0
        have hk1 := (blk_cell HG4.out) 1
        have hk2 := (blk_cell HG4.out) 2
        have hk3 := (blk_cell HG4.out) 3
        have hk4 := (blk_cell HG4.out) 4
        have hk5 := (blk_cell HG4.out) 5
        have hk6 := (blk_cell HG4.out) 6
        have hk7 := (blk_cell HG4.out) 7
        have hkf0 := free_of HG4.out 0
        have hkf1 := free_of HG4.out 1
        have hkf2 := free_of HG4.out 2
        have hkf3 := free_of HG4.out 3
        have hkf4 := free_of HG4.out 4
        have hkf5 := free_of HG4.out 5
        have hkf6 := free_of HG4.out 6
        have hkf7 := free_of HG4.out 7
        have hn0 := (blk_cell HN4.out) 0
        have hn1 := (blk_cell HN4.out) 1
        have hn2 := (blk_cell HN4.out) 2
        have hn3 := (blk_cell HN4.out) 3
        have hn4 := (blk_cell HN4.out) 4
        have hn5 := (blk_cell HN4.out) 5
        have hn6 := (blk_cell HN4.out) 6
        have hn7 := (blk_cell HN4.out) 7
        unfold stv
        dsimp only
        by_cases hz : E1 = 0
        · have e2 : (E1 != 0) = false := by simpa using hz
          have HC1 : Aside0 (Cl s1) := ⟨HS1.out ▸ HCL.out.take (HE1.out.trans hz)⟩
          clear hz
          go_upto_region 12 with (fail)
          obtain ⟨wx, hwx⟩ : ∃ W, sets w2.heap.size (w3.alloc (.cells #[.int .i64 s1.num, .int .i64 s1.ph, .slice Cf s1.pl.1.length ef, .slice Ct s1.pl.2.1.length et, .slice Cs s1.pl.2.2.1.length es, .slice Cb s1.pl.2.2.2.length eb, .slice Co s1.op.length eo, .slice Cd s1.dn.length ed] 34)) [(0, .int .i64 s1.num), (1, .int .i64 s1.ph), (2, .slice Cf s1.pl.1.length ef), (3, .slice Ct s1.pl.2.1.length et), (4, .slice Cs s1.pl.2.2.1.length es), (5, .slice Cb s1.pl.2.2.2.length eb), (6, .slice Co s1.op.length eo), (7, .slice Cd s1.dn.length ed)] = W := ⟨_, rfl⟩
          have hgx := box8 HG4.out (.int .i64 s1.num) (.int .i64 s1.ph) (.slice Cf s1.pl.1.length ef) (.slice Ct s1.pl.2.1.length et) (.slice Cs s1.pl.2.2.1.length es) (.slice Cb s1.pl.2.2.2.length eb) (.slice Co s1.op.length eo) (.slice Cd s1.dn.length ed)
          have hvx := StR_sets (T := 34) (by decide) [(0, .int .i64 s1.num), (1, .int .i64 s1.ph), (2, .slice Cf s1.pl.1.length ef), (3, .slice Ct s1.pl.2.1.length et), (4, .slice Cs s1.pl.2.2.1.length es), (5, .slice Cb s1.pl.2.2.2.length eb), (6, .slice Co s1.op.length eo), (7, .slice Cd s1.dn.length ed)] _ _ HG4.out HR4.out
          have hbx := Below_sets HWW.out [(0, .int .i64 s1.num), (1, .int .i64 s1.ph), (2, .slice Cf s1.pl.1.length ef), (3, .slice Ct s1.pl.2.1.length et), (4, .slice Cs s1.pl.2.2.1.length es), (5, .slice Cb s1.pl.2.2.2.length eb), (6, .slice Co s1.op.length eo), (7, .slice Cd s1.dn.length ed)] _ HB4.out
          have hsx : w2.heap.size ≤ (sets w2.heap.size (w3.alloc (.cells #[.int .i64 s1.num, .int .i64 s1.ph, .slice Cf s1.pl.1.length ef, .slice Ct s1.pl.2.1.length et, .slice Cs s1.pl.2.2.1.length es, .slice Cb s1.pl.2.2.2.length eb, .slice Co s1.op.length eo, .slice Cd s1.dn.length ed] 34)) [(0, .int .i64 s1.num), (1, .int .i64 s1.ph), (2, .slice Cf s1.pl.1.length ef), (3, .slice Ct s1.pl.2.1.length et), (4, .slice Cs s1.pl.2.2.1.length es), (5, .slice Cb s1.pl.2.2.2.length eb), (6, .slice Co s1.op.length eo), (7, .slice Cd s1.dn.length ed)]).heap.size := Nat.le_trans HSZ4.out (Below_sets (base := 0) (Nat.zero_le _) [(0, .int .i64 s1.num), (1, .int .i64 s1.ph), (2, .slice Cf s1.pl.1.length ef), (3, .slice Ct s1.pl.2.1.length et), (4, .slice Cs s1.pl.2.2.1.length es), (5, .slice Cb s1.pl.2.2.2.length eb), (6, .slice Co s1.op.length eo), (7, .slice Cd s1.dn.length ed)] (w3.alloc (.cells #[.int .i64 s1.num, .int .i64 s1.ph, .slice Cf s1.pl.1.length ef, .slice Ct s1.pl.2.1.length et, .slice Cs s1.pl.2.2.1.length es, .slice Cb s1.pl.2.2.2.length eb, .slice Co s1.op.length eo, .slice Cd s1.dn.length ed] 34)) (Below.refl 0 (w3.alloc (.cells #[.int .i64 s1.num, .int .i64 s1.ph, .slice Cf s1.pl.1.length ef, .slice Ct s1.pl.2.1.length et, .slice Cs s1.pl.2.2.1.length es, .slice Cb s1.pl.2.2.2.length eb, .slice Co s1.op.length eo, .slice Cd s1.dn.length ed] 34)))).size
          rw [hwx] at hgx hvx hbx hsx
          have HG5 := Aside0.mk hgx
          have HV5 := Aside0.mk hvx
          have HB5 := Aside0.mk hbx
          have HSZ5 := Aside0.mk hsx
          have hwx' := hwx
          simp only [sets, List.foldl] at hwx'
          have hb6 := below_alloc (Below.refl wx.heap.size wx) (.cells #[.int .i64 (s1.pl.2.2.1.length : Int), .slice Cb s1.pl.2.2.2.length eb] 55)
          have hx6 := heap_last wx (.cells #[.int .i64 (s1.pl.2.2.1.length : Int), .slice Cb s1.pl.2.2.2.length eb] 55)
          have HSW6 : Aside0 (wx.heap.size = wx.heap.size) := ⟨rfl⟩
          obtain ⟨W6, hW6⟩ : ∃ W, wx.alloc (.cells #[.int .i64 (s1.pl.2.2.1.length : Int), .slice Cb s1.pl.2.2.2.length eb] 55) = W := ⟨_, rfl⟩
          rw [hW6] at hb6 hx6
          have HG6 := Aside0.mk (blk_below HG5.out hb6)
          have HV6 := Aside0.mk (HV5.out.below hb6)
          have HB6 := Aside0.mk (below_step HB5.out hb6)
          have HSZ6 : Aside0 (w2.heap.size ≤ W6.heap.size) := ⟨Nat.le_trans HSZ5.out hb6.size⟩
          have HX6 := Aside0.mk hx6
          have hm0 := HV6.out.c
          obtain ⟨_, ⟨Ao', co', eo1, _, hop⟩, ⟨Ad', cd', ed1, _, hdn⟩⟩ := hm0
          cases eo1
          cases ed1
          obtain ⟨_, _, _, Ab', cb', eb1, _, hed⟩ := HV6.out.c.1
          cases eb1
          have HOP := Aside0.mk hop
          have HDN := Aside0.mk hdn
          have HED := Aside0.mk hed
          rw [hwx']
          clear hgx hvx hbx hsx hb6 hx6 hop hdn hed hwx hwx' hk0 hkf0 hn0 hk1 hkf1 hn1 hk2 hkf2 hn2 hk3 hkf3 hn3 hk4 hkf4 hn4 hk5 hkf5 hn5 hk6 hkf6 hn6 hk7 hkf7 hn7 HG HV HG2 HV2 HG3 HV3 HG4 HV4 HR3 HR4 HN4 HW2 HB HB2' HB3 HB4 HSZ2 HSZ3 HSZ4
          have gx0 := (blk_cell HG5.out) 0
          have gx1 := (blk_cell HG5.out) 1
          have gx2 := (blk_cell HG5.out) 2
          have gx3 := (blk_cell HG5.out) 3
          have gx4 := (blk_cell HG5.out) 4
          have gx5 := (blk_cell HG5.out) 5
          have gx6 := (blk_cell HG5.out) 6
          have gx7 := (blk_cell HG5.out) 7
          have gy0 := (blk_cell HG6.out) 0
          have gy1 := (blk_cell HG6.out) 1
          have gy2 := (blk_cell HG6.out) 2
          have gy3 := (blk_cell HG6.out) 3
          have gy4 := (blk_cell HG6.out) 4
          have gy5 := (blk_cell HG6.out) 5
          have gy6 := (blk_cell HG6.out) 6
          have gy7 := (blk_cell HG6.out) 7
          have gg0 := (blk_cell HX6.out) 0
          have gg1 := (blk_cell HX6.out) 1
          have HNN := Aside0.mk HC1.out.n
          have HLD : Aside0 (s1.dn.length ≤ 1000) := ⟨by have := HBD.out.d; have := HL.out; have := HI.out; omega⟩
          have HLO : Aside0 (s1.op.length ≤ 1000) := ⟨by have := HBD.out.o; have := HL.out; have := HI.out; omega⟩
          obtain ⟨ko, rfl⟩ : ∃ k, k = gk := ⟨_, rfl⟩
          go_wp2_with (fail)
          go_loopg [9, 46] s1.dn.length (fun kq v9 v46 w' => ∃ (j : Nat), v46 = .int .i64 (j : Int) ∧ v9 = .int .u64 ((maskOf (s1.dn.take j) : Nat) : Int) ∧ Aside0 (j + kq = s1.dn.length) ∧ w' = W6)
          case atStart => exact ⟨0, rfl, rfl, ⟨by omega⟩, rfl⟩
          case round =>
            obtain ⟨j, rfl, rfl, HJ2, rfl⟩ := hrel
            by_cases c2 : j < s1.dn.length
            · have e3 : decide (j < s1.dn.length) = true := decide_eq_true c2
              have HE6 : Aside0 (wrap64 ((j : Int) + 1) = ((j + 1 : Nat) : Int)) := ⟨by have := HLD.out; unfold wrap64; omega⟩
              obtain ⟨ad2, ea, hx⟩ := at_int HDN.out j c2
              cases ea
              obtain ⟨x, hxx⟩ : ∃ x, s1.dn.getD j 0 = x := ⟨_, rfl⟩
              have hm : x ∈ s1.dn := by rw [← hxx]; exact getD_mem c2 _
              obtain ⟨p1, p2⟩ := HC1.out.r x (List.mem_append_left _ hm)
              rw [hxx] at hx
              have HI2 := Aside0.mk c2
              obtain ⟨x, rfl⟩ := Int.eq_ofNat_of_zero_le p1
              have hxn : x < s1.pl.2.2.1.length := by omega
              have hx64 : x < 64 := by have := HNN.out; omega
              have hml := maskOf_lt (s1.dn.take j) 64 (fun k hk => by have := HC1.out.r k (List.mem_append_left _ (List.mem_of_mem_take hk)); have := HNN.out; omega)
              have hnot : (maskOf (s1.dn.take j)).testBit x = false := by
                rw [maskOf_bit _ _ (fun k hk => (HC1.out.r k (List.mem_append_left _ (List.mem_of_mem_take hk))).1), ← hxx]
                have := nodup_at (a := []) (i := j) (by simpa using (List.nodup_append.1 HC1.out.nd).1) c2
                simpa using this
              have K := Aside0.mk (In_T (maskOf (s1.dn.take j)) x wr (by simpa using hml) hx64)
              rw [hnot] at K
              have s0 : min x 64 = x := by omega
              have s2 := shlU x hx64
              have s3 := orPow (maskOf (s1.dn.take j)) x hml hx64
              have e4 : decide (s1.pl.2.2.1.length ≤ x) = false := decide_eq_false (by omega)
              obtain ⟨m, hmm⟩ : ∃ m, maskOf (s1.dn.take j) = m := ⟨_, rfl⟩
              rw [hmm] at s3 K ⊢
              have HMK : Aside0 (maskOf (s1.dn.take (j + 1)) = m ||| 2 ^ x) := ⟨by rw [take_snoc' c2 0, maskOf_snoc, hmm, hxx, Int.toNat_natCast]⟩
              clear hxx hm p1 p2 hml hmm hnot
              go_wp2_with (fail)
              refine K.out.mono ?_
              rintro e w5 ⟨rfl, rfl⟩
              clear K
              go_wp2_with (fail)
              go_roundg (gk - 1)
              case measure => have := HJ2.out; have := HI2.out; omega
              case rel => exact ⟨j + 1, (by first | exact congrArg _ HE6.out | rfl), by rw [HMK.out], ⟨by have := HJ2.out; have := HI2.out; omega⟩, rfl⟩
            · have e3 : decide (j < s1.dn.length) = false := decide_eq_false c2
              have HE64 : Aside0 (EdgesIn 64 s1.pl.2.2.2) := ⟨fun e he => by have := HC1.out.e e he; have := HNN.out; omega⟩
              have hmk : maskOf (s1.dn.take j) = maskOf s1.dn := by rw [List.take_of_length_le (by have := HJ2.out; omega)]
              have hml := maskOf_lt s1.dn 64 (fun k hk => by have := HC1.out.r k (List.mem_append_left _ hk); have := HNN.out; omega)
              have HML := Aside0.mk hml
              have K := Aside0.mk (Closed_T (s1.pl.2.2.1.length : Int) s1.pl.2.2.2 Cb eb (maskOf s1.dn) wr (by simpa using hml) HED.out HE64.out (by have := HC1.out.m; omega))
              rw [HC1.out.done] at K
              rw [hmk]
              obtain ⟨M, hM⟩ : ∃ m, maskOf s1.dn = m := ⟨_, rfl⟩
              rw [hM] at K ⊢
              have HMM := Aside0.mk hM
              clear hM hml hmk hW6
              go_wp2_with (fail)
              refine K.out.mono ?_
              rintro e w5 ⟨rfl, hb⟩
              have HB67 := Aside0.mk hb
              have HG7 := Aside0.mk (blk_below HG6.out hb)
              have HX7 := Aside0.mk (blk_below HX6.out hb)
              have HV7 := Aside0.mk (HV6.out.below hb)
              have HB7 := Aside0.mk (below_step HB6.out hb)
              have HSZ7 : Aside0 (w2.heap.size ≤ w5.heap.size) := ⟨Nat.le_trans HSZ6.out hb.size⟩
              have HOP7 := Aside0.mk (Kd.C_below HOP.out hb)
              have HED7 := Aside0.mk (Kd.C_below HED.out hb)
              clear K hb gg0 gg1 HG5 HV5 HB5 HSZ5 gx0 gy0 gx1 gy1 gx2 gy2 gx3 gy3 gx4 gy4 gx5 gy5 gx6 gy6 gx7 gy7
              have gz0 := (blk_cell HG7.out) 0
              have gz1 := (blk_cell HG7.out) 1
              have gz2 := (blk_cell HG7.out) 2
              have gz3 := (blk_cell HG7.out) 3
              have gz4 := (blk_cell HG7.out) 4
              have gz5 := (blk_cell HG7.out) 5
              have gz6 := (blk_cell HG7.out) 6
              have gz7 := (blk_cell HG7.out) 7
              have gq0 := (blk_cell HX7.out) 0
              have gq1 := (blk_cell HX7.out) 1
              go_wp2_with (fail)
              go_loopg [12, 76] s1.op.length (fun kq v12 v76 w' => ∃ (j2 : Nat), v76 = .int .i64 (j2 : Int) ∧ v12 = .int .u64 ((maskOf (s1.dn ++ s1.op.take j2) : Nat) : Int) ∧ Aside0 (j2 + kq = s1.op.length) ∧ Aside0 (Below w5.heap.size w5 w'))
              case atStart => exact ⟨0, rfl, by rw [List.take_zero, List.append_nil, HMM.out], ⟨by omega⟩, ⟨Below.refl _ _⟩⟩
              case round =>
                obtain ⟨j2, rfl, rfl, HJ3, HB8⟩ := hrel
                have HG8 := Aside0.mk (blk_below HG7.out HB8.out)
                have HX8 := Aside0.mk (blk_below HX7.out HB8.out)
                have hm64 := maskOf_lt (s1.dn ++ s1.op.take j2) 64 (fun k hk => by
                  have := HC1.out.r k (by rw [List.mem_append] at hk ⊢; exact hk.imp id List.mem_of_mem_take)
                  have := HNN.out
                  omega)
                by_cases c3 : j2 < s1.op.length
                · have e5 : decide (j2 < s1.op.length) = true := decide_eq_true c3
                  have HE7 : Aside0 (wrap64 ((j2 : Int) + 1) = ((j2 + 1 : Nat) : Int)) := ⟨by have := HLO.out; unfold wrap64; omega⟩
                  obtain ⟨ad3, ea, hx⟩ := at_int HOP7.out j2 c3
                  cases ea
                  replace hx := pw_cell_below HB8.out hx
                  obtain ⟨x, hxx⟩ : ∃ x, s1.op.getD j2 0 = x := ⟨_, rfl⟩
                  have hm : x ∈ s1.op := by rw [← hxx]; exact getD_mem c3 _
                  obtain ⟨p1, p2⟩ := HC1.out.r x (List.mem_append_right _ hm)
                  rw [hxx] at hx
                  have HI3 := Aside0.mk c3
                  have hone := HC1.out.one hm
                  obtain ⟨x, rfl⟩ := Int.eq_ofNat_of_zero_le p1
                  have hxn : x < s1.pl.2.2.1.length := by omega
                  have hx64 : x < 64 := by have := HNN.out; omega
                  have hnot : (maskOf (s1.dn ++ s1.op.take j2)).testBit x = false := by
                    rw [maskOf_bit _ _ (fun k hk => (HC1.out.r k (by rw [List.mem_append] at hk ⊢; exact hk.imp id List.mem_of_mem_take)).1), ← hxx]
                    have := nodup_at HC1.out.nd c3
                    simpa using this
                  rw [maskOf_snoc, Int.toNat_natCast, HMM.out] at hone
                  have hM64 : M < 2 ^ 64 := by rw [← HMM.out]; exact HML.out
                  have hb1 := below_drew (Below.refl wr.heap.size wr)
                  have K4 := Aside0.mk (In_T (maskOf (s1.dn ++ s1.op.take j2)) x wr.drew (by simpa using hm64) hx64)
                  rw [hnot] at K4
                  have K5 := Aside0.mk (Closed_T (s1.pl.2.2.1.length : Int) s1.pl.2.2.2 Cb eb (M ||| 2 ^ x) wr.drew (by have := or_lt hM64 (pow_lt hx64); simpa using this) (Kd.C_below (Kd.C_below HED7.out HB8.out) hb1) HE64.out (by have := HC1.out.m; omega))
                  rw [hone] at K5
                  have s0 : min x 64 = x := by omega
                  have s2 := shlU x hx64
                  have s3 := orPow (maskOf (s1.dn ++ s1.op.take j2)) x hm64 hx64
                  have s4 := orPow M x hM64 hx64
                  have e4 : decide (s1.pl.2.2.1.length ≤ x) = false := decide_eq_false (by omega)
                  obtain ⟨m, hmm⟩ : ∃ m, maskOf (s1.dn ++ s1.op.take j2) = m := ⟨_, rfl⟩
                  rw [hmm] at s3 K4 ⊢
                  have HMK : Aside0 (maskOf (s1.dn ++ s1.op.take (j2 + 1)) = m ||| 2 ^ x) := ⟨by rw [take_snoc' c3 0, ← List.append_assoc, maskOf_snoc, hmm, hxx, Int.toNat_natCast]⟩
                  have HB9 := Aside0.mk (below_drew1 HB8.out)
                  have hq0 := (blk_cell (blk_drew HX8.out)) 0
                  have hq1 := (blk_cell (blk_drew HX8.out)) 1
                  clear hxx hm p1 p2 hm64 hnot hone hM64 hmm hb1
                  go_upto_region 27 with (fail)
                  go_region_held3 (fun w' => w'.cell? ⟨wx.heap.size, 0, none⟩ = some (.int .i64 (s1.pl.2.2.1.length : Int)) ∧ w'.cell? ⟨wx.heap.size, 1, none⟩ = some (.slice Cb s1.pl.2.2.2.length eb)) (first | go_keep | exact ⟨hq0, hq1⟩)
                    (first
                      | (go_at_call 27; refine K4.out.mono ?_; rintro e w7 ⟨rfl, rfl⟩; clear K4)
                      | (go_at_call 28; refine K5.out.mono ?_; rintro e w8 ⟨rfl, hb⟩; have HBB := Aside0.mk (below_step HB9.out hb); have hv0 := pw_cell_below hb hq0; have hv1 := pw_cell_below hb hq1; clear K5 hb))
                  go_wp2_with (fail)
                  go_roundg (gk - 1)
                  case measure => have := HJ3.out; have := HI3.out; omega
                  case rel => exact ⟨j2 + 1, (by first | exact congrArg _ HE7.out | rfl), by rw [HMK.out], ⟨by have := HJ3.out; have := HI3.out; omega⟩, HBB⟩
                · have e5 : decide (j2 < s1.op.length) = false := decide_eq_false c3
                  have hmk : maskOf (s1.dn ++ s1.op.take j2) = maskOf (s1.dn ++ s1.op) := by rw [List.take_of_length_le (by have := HJ3.out; omega)]
                  rw [hmk] at hm64 ⊢
                  have K4 := Aside0.mk (Closed_T (s1.pl.2.2.1.length : Int) s1.pl.2.2.2 Cb eb (maskOf (s1.dn ++ s1.op)) wr (by simpa using hm64) (Kd.C_below HED7.out HB8.out) HE64.out (by have := HC1.out.m; omega))
                  rw [HC1.out.all] at K4
                  have K5 := Aside0.mk (fun W (hb : Below wr.heap.size wr W) => Reached_T ⟨⟨.slice Cf s1.pl.1.length ef, .slice Ct s1.pl.2.1.length et, .slice Cs s1.pl.2.2.1.length es, .slice Cb s1.pl.2.2.2.length eb⟩, .slice Co s1.op.length eo, .slice Cd s1.dn.length ed⟩ s1 W ((HV7.out.c.below HB8.out).below hb) (by have := HLO.out; omega) (by have := HLD.out; omega) (fun k hk => by have := HC1.out.r k (by rw [List.mem_append] at hk ⊢; exact hk.symm); have := HNN.out; omega))
                  simp only [HC1.out.reached] at K5
                  unfold stv at K5
                  dsimp only at K5
                  obtain ⟨M2, hM2⟩ : ∃ m, maskOf (s1.dn ++ s1.op) = m := ⟨_, rfl⟩
                  simp only [hM2] at K4 K5 ⊢
                  have hq0 := (blk_cell HX8.out) 0
                  have hq1 := (blk_cell HX8.out) 1
                  clear hmk hm64 hM2
                  go_wp2_with (fail)
                  refine K4.out.mono ?_
                  rintro e w7 ⟨rfl, hb⟩
                  have K6 := Aside0.mk (K5.out w7 hb)
                  have HB9 := Aside0.mk (below_step HB8.out hb)
                  have HG9 := Aside0.mk (blk_below HG7.out HB9.out)
                  clear K4 K5 hb hq0 hq1
                  have gr0 := (blk_cell HG9.out) 0
                  have gr1 := (blk_cell HG9.out) 1
                  have gr2 := (blk_cell HG9.out) 2
                  have gr3 := (blk_cell HG9.out) 3
                  have gr4 := (blk_cell HG9.out) 4
                  have gr5 := (blk_cell HG9.out) 5
                  have gr6 := (blk_cell HG9.out) 6
                  have gr7 := (blk_cell HG9.out) 7
                  go_wp2_with (fail)
                  refine K6.out.mono ?_
                  rintro e w8 ⟨rfl, hb⟩
                  have HBA := Aside0.mk (below_step HB9.out hb)
                  clear K6 hb
                  go_wp2_with (fail)
                  go_roundg (ko - 1)
                  case measure => have := HJ.out; have := HI.out; omega
                  case rel => exact ⟨i + 1, s1, ⟨⟨.slice Cf s1.pl.1.length ef, .slice Ct s1.pl.2.1.length et, .slice Cs s1.pl.2.2.1.length es, .slice Cb s1.pl.2.2.2.length eb⟩, .slice Co s1.op.length eo, .slice Cd s1.dn.length ed⟩, (by first | exact congrArg _ HE5.out | rfl), ⟨by have := HJ.out; have := HI.out; omega⟩, HBD, HC1, ⟨blk_below HG7.out HBA.out⟩, ⟨HV7.out.below HBA.out⟩, ⟨below_step HB7.out HBA.out⟩, ⟨Nat.le_trans HSZ7.out HBA.out.size⟩⟩
        · have e2 : (E1 != 0) = true := by simpa using hz
          have HZ1 := Aside0.mk hz
          clear hz
          go_wp2_with (fail)
          go_roundg (gk - 1)
          case measure => have := HJ.out; have := HI.out; omega
          case rel => exact ⟨i + 1, s, V, (by first | exact congrArg _ HE5.out | rfl), ⟨by have := HJ.out; have := HI.out; omega⟩, ⟨HD.out.le (Nat.le_succ _)⟩, HCL, ⟨by rw [HSV.out]; exact HG4.out⟩, HV4, HB4, HSZ4⟩
      · have e1 : decide (i < l.length) = false := decide_eq_false c1
        clear c1
        go_wp2
        go_ret
        exact ⟨rfl, HB.out⟩
end Go.Proofs.YtplhihakeodadaaDoor.Sg
