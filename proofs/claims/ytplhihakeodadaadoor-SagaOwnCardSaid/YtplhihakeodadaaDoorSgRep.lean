/- saga: a list of records in memory; Replay and small, walked. (written by gen_rep.py) -/
import Derived.Test.YtplhihakeodadaaDoorSgPlan
namespace Go.Proofs.YtplhihakeodadaaDoor.Sg
open Go Go.RowKit Go.Proofs.YtplhihakeodadaaDoorW.PrintWords Go.Proofs.YtplhihakeodadaaDoorW.PrintLast Go.Proofs.YtplhihakeodadaaDoorW.PrintMore
set_option linter.unusedVariables false
set_option linter.unusedSimpArgs false
def rr0 : RR := ⟨0, 0, pl0⟩
/-- What lies at an address is a record. -/
def RecAt (w : World) (ad : Addr) (r : RR) : Prop := ∃ U : PV, PlC w U r.pl ∧ w.cell? ad = some (.int .i64 r.kind) ∧ w.cell? ⟨ad.block, ad.off + 1, none⟩ = some (.int .i64 r.step) ∧ w.cell? ⟨ad.block, ad.off + 2, none⟩ = some U.f ∧ w.cell? ⟨ad.block, ad.off + 3, none⟩ = some U.t ∧ w.cell? ⟨ad.block, ad.off + 4, none⟩ = some U.st ∧ w.cell? ⟨ad.block, ad.off + 5, none⟩ = some U.b
theorem RecAt.below {w w1 : World} {ad : Addr} {r : RR} (h : RecAt w ad r) (hb : Below w.heap.size w w1) : RecAt w1 ad r := by
  obtain ⟨U, h0, h1, h2, h3, h4, h5, h6⟩ := h
  exact ⟨U, h0.below hb, pw_cell_below hb h1, pw_cell_below hb h2, pw_cell_below hb h3, pw_cell_below hb h4, pw_cell_below hb h5, pw_cell_below hb h6⟩
def Recs (w : World) (A : Option Addr) (l : List RR) : Prop := ∀ i, i < l.length → ∃ ad, A = some ad ∧ RecAt w (ad.add (i * 6)) (l.getD i rr0)
theorem Recs.below {w w1 : World} {A : Option Addr} {l : List RR} (h : Recs w A l) (hb : Below w.heap.size w w1) : Recs w1 A l := fun i hi => by
  obtain ⟨ad, e, h1⟩ := h i hi
  exact ⟨ad, e, h1.below hb⟩
theorem RecAt.opened {w : World} {ad : Addr} {r : RR} (h : RecAt w ad r) : ∃ Bf df Bt dt Bs ds Bb db, PlC w ⟨.slice Bf r.pl.1.length df, .slice Bt r.pl.2.1.length dt, .slice Bs r.pl.2.2.1.length ds, .slice Bb r.pl.2.2.2.length db⟩ r.pl ∧ w.cell? ad = some (.int .i64 r.kind) ∧ w.cell? ⟨ad.block, ad.off + 1, none⟩ = some (.int .i64 r.step) ∧ w.cell? ⟨ad.block, ad.off + 2, none⟩ = some (.slice Bf r.pl.1.length df) ∧ w.cell? ⟨ad.block, ad.off + 3, none⟩ = some (.slice Bt r.pl.2.1.length dt) ∧ w.cell? ⟨ad.block, ad.off + 4, none⟩ = some (.slice Bs r.pl.2.2.1.length ds) ∧ w.cell? ⟨ad.block, ad.off + 5, none⟩ = some (.slice Bb r.pl.2.2.2.length db) := by
  obtain ⟨U, h0, h1, h2, h3, h4, h5, h6⟩ := h
  obtain ⟨Bf, df, Bt, dt, Bs, ds, Bb, db, rfl, _⟩ := h0.opened'
  exact ⟨Bf, df, Bt, dt, Bs, ds, Bb, db, h0, h1, h2, h3, h4, h5, h6⟩
theorem Bd.le {k k' : Nat} {s : SS} (h : Bd k s) (hk : k ≤ k') : Bd k' s := ⟨h.n0, by have := h.n1; omega, Nat.le_trans h.o hk, Nat.le_trans h.d hk, h.p⟩
theorem drop_at {l : List RR} {i : Nat} (h : i < l.length) : l.drop i = l.getD i rr0 :: l.drop (i + 1) := by
  rw [List.drop_eq_getElem_cons h]
  simp [h]
set_option maxHeartbeats 16000000 in
set_option maxRecDepth 20000 in
theorem Replay_T (l : List RR) (A : Option Addr) (c : Nat) (w : World) (hT : TabW w) (h : Recs w A l) (hp : ∀ r ∈ l, okPlan r.pl = true) (hl : l.length ≤ 1000) (S : SS) (N : Nat) (E : Int) (hS : replay ss0 l = (S, N, E)) :
    Calls Tryd.prog 24 #[.slice A l.length c] w fun e w' => ∃ V', e = .returned (.tuple #[.agg (stv V' S), .int .i64 (N : Int), .int .i64 E]) ∧ StR w' w.heap.size V' S ∧ Below w.heap.size w w' := by
  have HB0 := Aside0.mk (below_alloc (Below.refl w.heap.size w) (.cells z8 34))
  have HG0 := Aside0.mk (heap_last w (.cells z8 34))
  have HT := Aside0.mk hT
  have HR := Aside0.mk h
  have HP := Aside0.mk hp
  have HL := Aside0.mk hl
  have HS := Aside0.mk hS
  have HZ : Aside0 (stv sv0 ss0 = z8) := ⟨rfl⟩
  unfold z8 at HB0 HG0 HZ
  clear hT h hp hl hS
  go_enter Tryd.func24, Tryd.ntmps24
  go_wp2
  go_loopg [5, 6, 7, 8, 11] l.length (fun kq v5 v6 v7 v8 v11 w' => ∃ (i : Nat) (s : SS) (V : SV), v11 = .int .i64 (i : Int) ∧ Aside0 (i + kq = l.length) ∧ Aside0 (Bd i s) ∧ Aside0 ((replay s (l.drop i)).1 = S ∧ i + (replay s (l.drop i)).2.1 = N ∧ (replay s (l.drop i)).2.2 = E) ∧ Aside0 (w'.heap[w.heap.size]? = some (.cells (stv V s) 34 (0, 0))) ∧ Aside0 (StR w' w.heap.size V s) ∧ Aside0 (Below w.heap.size w w'))
  case atStart =>
    refine ⟨0, ss0, sv0, rfl, ⟨by omega⟩, ⟨Bd.zero 0⟩, ⟨?_⟩, ⟨?_⟩, ⟨StR.zero _ _⟩, HB0⟩
    · rw [List.drop_zero, HS.out]; exact ⟨rfl, Nat.zero_add _, rfl⟩
    · rw [HZ.out]; exact HG0.out
  case round =>
    clear HB0 HG0
    obtain ⟨i, s, V, rfl, HJ, HD, HQ, HG, HV, HB⟩ := hrel
    obtain ⟨Af, cf, At, ct, As, cs, Ab, cb, Ao, co, Ad, cd, hV⟩ := HV.out.opened
    have HVE := Aside0.mk hV
    have hstv : stv V s = #[.int .i64 s.num, .int .i64 s.ph, .slice Af s.pl.1.length cf, .slice At s.pl.2.1.length ct, .slice As s.pl.2.2.1.length cs, .slice Ab s.pl.2.2.2.length cb, .slice Ao s.op.length co, .slice Ad s.dn.length cd] := by rw [hV]; rfl
    have HSV := Aside0.mk hstv
    rw [hstv] at HG
    clear hV hstv
    by_cases c1 : i < l.length
    · have e1 : decide (i < l.length) = true := decide_eq_true c1
      have HE5 : Aside0 (wrap64 ((i : Int) + 1) = ((i + 1 : Nat) : Int)) := ⟨by have := HL.out; unfold wrap64; omega⟩
      obtain ⟨ad, ea, hat⟩ := HR.out i c1
      cases ea
      have HM : Aside0 (okPlan (l.getD i rr0).pl = true) := ⟨HP.out _ (getD_mem c1 _)⟩
      have HDR : Aside0 (l.drop i = l.getD i rr0 :: l.drop (i + 1)) := ⟨drop_at c1⟩
      obtain ⟨r, hr⟩ : ∃ r, l.getD i rr0 = r := ⟨_, rfl⟩
      rw [hr] at hat HM HDR
      have HI := Aside0.mk c1
      obtain ⟨Bf, df, Bt, dt, Bs, ds, Bb, db, hu, q0, q1, q2, q3, q4, q5⟩ := (hat.below HB.out).opened
      have hb2 := below_alloc (Below.refl wr.heap.size wr) (.cells #[.int .i64 r.kind, .int .i64 r.step, .slice Bf r.pl.1.length df, .slice Bt r.pl.2.1.length dt, .slice Bs r.pl.2.2.1.length ds, .slice Bb r.pl.2.2.2.length db] 39)
      have HW2 := Aside0.mk (heap_last wr (.cells #[.int .i64 r.kind, .int .i64 r.step, .slice Bf r.pl.1.length df, .slice Bt r.pl.2.1.length dt, .slice Bs r.pl.2.2.1.length ds, .slice Bb r.pl.2.2.2.length db] 39))
      have HG2 := Aside0.mk (blk_below HG.out hb2)
      have HB2 := Aside0.mk (below_step HB.out hb2)
      have HV2 := Aside0.mk (HV.out.below hb2)
      have K := Aside0.mk (Take_T V s ⟨.slice Bf r.pl.1.length df, .slice Bt r.pl.2.1.length dt, .slice Bs r.pl.2.2.1.length ds, .slice Bb r.pl.2.2.2.length db⟩ r (wr.alloc (.cells #[.int .i64 r.kind, .int .i64 r.step, .slice Bf r.pl.1.length df, .slice Bt r.pl.2.1.length dt, .slice Bs r.pl.2.2.1.length ds, .slice Bb r.pl.2.2.2.length db] 39)) (HT.out.below HB2.out) HV2.out.c (hu.below hb2) HM.out (Bd.le HD.out (by have := HL.out; omega)))
      rw [HSV.out] at K
      unfold rrv at K
      dsimp only at K
      have hg0 := (blk_cell HG2.out) 0
      have hg1 := (blk_cell HG2.out) 1
      have hg2 := (blk_cell HG2.out) 2
      have hg3 := (blk_cell HG2.out) 3
      have hg4 := (blk_cell HG2.out) 4
      have hg5 := (blk_cell HG2.out) 5
      have hg6 := (blk_cell HG2.out) 6
      have hg7 := (blk_cell HG2.out) 7
      have hgf0 := free_of HG2.out 0
      have hgf1 := free_of HG2.out 1
      have hgf2 := free_of HG2.out 2
      have hgf3 := free_of HG2.out 3
      have hgf4 := free_of HG2.out 4
      have hgf5 := free_of HG2.out 5
      have hgf6 := free_of HG2.out 6
      have hgf7 := free_of HG2.out 7
      have hw0 := (blk_cell HW2.out) 0
      have hw1 := (blk_cell HW2.out) 1
      have hw2 := (blk_cell HW2.out) 2
      have hw3 := (blk_cell HW2.out) 3
      have hw4 := (blk_cell HW2.out) 4
      have hw5 := (blk_cell HW2.out) 5
      obtain ⟨s1, hs1⟩ : ∃ s1, (take s r).1 = s1 := ⟨_, rfl⟩
      obtain ⟨E1, hE1⟩ : ∃ E1, (take s r).2 = E1 := ⟨_, rfl⟩
      rw [hs1, hE1] at K
      have HS1 := Aside0.mk hs1
      have HE1 := Aside0.mk hE1
      have HBD : Aside0 (Bd (i + 1) s1) := ⟨hs1 ▸ Bd.take HD.out HM.out⟩
      clear hs1 hE1 hr hat hb2 hu
      go_wp2_with (fail)
      refine K.out.mono ?_
      rintro e w3 ⟨V1, rfl, hr3, hb3⟩
      have HB3 := Aside0.mk (below_step HB2.out hb3)
      have HG3 := Aside0.mk (blk_below HG2.out hb3)
      have HV3 := Aside0.mk (HV2.out.below hb3)
      have HR3 := Aside0.mk (hr3.lower (base' := w.heap.size) (below_size HB2.out))
      obtain ⟨Cf, ef, Ct, et, Cs, es, Cb, eb, Co, eo, Cd, ed, rfl⟩ := hr3.opened
      have hb4 := below_alloc (Below.refl w3.heap.size w3) (.cells #[.int .i64 s1.num, .int .i64 s1.ph, .slice Cf s1.pl.1.length ef, .slice Ct s1.pl.2.1.length et, .slice Cs s1.pl.2.2.1.length es, .slice Cb s1.pl.2.2.2.length eb, .slice Co s1.op.length eo, .slice Cd s1.dn.length ed] 34)
      have HG4 := Aside0.mk (blk_below HG3.out hb4)
      have HB4 := Aside0.mk (below_step HB3.out hb4)
      have HV4 := Aside0.mk (HV3.out.below hb4)
      have HR4 := Aside0.mk (HR3.out.below hb4)
      have HN4 := Aside0.mk (heap_last w3 (.cells #[.int .i64 s1.num, .int .i64 s1.ph, .slice Cf s1.pl.1.length ef, .slice Ct s1.pl.2.1.length et, .slice Cs s1.pl.2.2.1.length es, .slice Cb s1.pl.2.2.2.length eb, .slice Co s1.op.length eo, .slice Cd s1.dn.length ed] 34))
      clear K hr3 hb3 hb4 q0 q1 q2 q3 q4 q5 hg0 hgf0 hg1 hgf1 hg2 hgf2 hg3 hgf3 hg4 hgf4 hg5 hgf5 hg6 hgf6 hg7 hgf7 hw0 hw1 hw2 hw3 hw4 hw5
      have hk0 := (blk_cell HG4.out) 0
      have hk1 := (blk_cell HG4.out) 1
      have hk2 := (blk_cell HG4.out) 2
      have hk3 := (blk_cell HG4.out) 3
      have hk4 := (blk_cell HG4.out) 4
      have hk5 := (blk_cell HG4.out) 5
      have hk6 := (blk_cell HG4.out) 6
      have hk7 := (blk_cell HG4.out) 7
      have hkf0 := free_of HG4.out 0
      have hkf1 := free_of HG4.out 1
      have hkf2 := free_of HG4.out 2
      have hkf3 := free_of HG4.out 3
      have hkf4 := free_of HG4.out 4
      have hkf5 := free_of HG4.out 5
      have hkf6 := free_of HG4.out 6
      have hkf7 := free_of HG4.out 7
      have hn0 := (blk_cell HN4.out) 0
      have hn1 := (blk_cell HN4.out) 1
      have hn2 := (blk_cell HN4.out) 2
      have hn3 := (blk_cell HN4.out) 3
      have hn4 := (blk_cell HN4.out) 4
      have hn5 := (blk_cell HN4.out) 5
      have hn6 := (blk_cell HN4.out) 6
      have hn7 := (blk_cell HN4.out) 7
      unfold stv
      dsimp only
      by_cases hz : E1 = 0
      · have e2 : (E1 != 0) = false := by simpa using hz
        have e3 : (E1 == 0) = true := by simpa using hz
        have HZ1 := Aside0.mk hz
        clear hz
        go_wp2_with (fail)
        go_roundg (gk - 1)
        case measure => have := HJ.out; have := HI.out; omega
        case rel =>
          refine ⟨i + 1, s1, ⟨⟨.slice Cf s1.pl.1.length ef, .slice Ct s1.pl.2.1.length et, .slice Cs s1.pl.2.2.1.length es, .slice Cb s1.pl.2.2.2.length eb⟩, .slice Co s1.op.length eo, .slice Cd s1.dn.length ed⟩, (by first | exact congrArg _ HE5.out | rfl), ⟨by have := HJ.out; have := HI.out; omega⟩, HBD, ⟨?_⟩, ⟨?_⟩, ⟨?_⟩, ⟨?_⟩⟩
          · have hq := HQ.out
            rw [HDR.out] at hq
            unfold replay at hq
            rw [HE1.out, HZ1.out, HS1.out, if_neg (by simp)] at hq
            exact ⟨hq.1, by have := hq.2.1; dsimp only at this ⊢; omega, hq.2.2⟩
          · exact box8 HG4.out _ _ _ _ _ _ _ _
          · exact StR_sets (T := 34) (by decide) [(0, .int .i64 s1.num), (1, .int .i64 s1.ph), (2, .slice Cf s1.pl.1.length ef), (3, .slice Ct s1.pl.2.1.length et), (4, .slice Cs s1.pl.2.2.1.length es), (5, .slice Cb s1.pl.2.2.2.length eb), (6, .slice Co s1.op.length eo), (7, .slice Cd s1.dn.length ed)] _ _ HG4.out HR4.out
          · exact Below_sets (Nat.le_refl _) [(0, .int .i64 s1.num), (1, .int .i64 s1.ph), (2, .slice Cf s1.pl.1.length ef), (3, .slice Ct s1.pl.2.1.length et), (4, .slice Cs s1.pl.2.2.1.length es), (5, .slice Cb s1.pl.2.2.2.length eb), (6, .slice Co s1.op.length eo), (7, .slice Cd s1.dn.length ed)] _ HB4.out
      · have e2 : (E1 != 0) = true := by simpa using hz
        have e3 : (E1 == 0) = false := by simpa using hz
        have HZ1 := Aside0.mk hz
        clear hz
        go_wp2_with (fail)
        refine bodyPost_ret (v := .tuple #[.agg #[.int .i64 s.num, .int .i64 s.ph, .slice Af s.pl.1.length cf, .slice At s.pl.2.1.length ct, .slice As s.pl.2.2.1.length cs, .slice Ab s.pl.2.2.2.length cb, .slice Ao s.op.length co, .slice Ad s.dn.length cd], .int .i64 (i : Int), .int .i64 E1]) (by simp [results, Tryd.results24, go_sem, hk0, hk1, hk2, hk3, hk4, hk5, hk6, hk7])  rfl ?_
        have hq := HQ.out
        rw [HDR.out] at hq
        unfold replay at hq
        rw [HE1.out, if_pos HZ1.out] at hq
        obtain ⟨h1, h2, h3⟩ := hq
        dsimp only at h1 h2 h3
        refine ⟨V, ?_, ?_, ?_⟩
        · rw [← h1, ← h3, ← h2, HSV.out]; rfl
        · rw [← h1]; exact StR_sets (T := 34) (by decide) [(0, .int .i64 s.num), (1, .int .i64 s.ph), (2, .slice Af s.pl.1.length cf), (3, .slice At s.pl.2.1.length ct), (4, .slice As s.pl.2.2.1.length cs), (5, .slice Ab s.pl.2.2.2.length cb), (6, .slice Ao s.op.length co), (7, .slice Ad s.dn.length cd)] _ _ HG4.out HV4.out
        · exact Below_sets (Nat.le_refl _) [(0, .int .i64 s.num), (1, .int .i64 s.ph), (2, .slice Af s.pl.1.length cf), (3, .slice At s.pl.2.1.length ct), (4, .slice As s.pl.2.2.1.length cs), (5, .slice Ab s.pl.2.2.2.length cb), (6, .slice Ao s.op.length co), (7, .slice Ad s.dn.length cd)] _ HB4.out
    · have e1 : decide (i < l.length) = false := decide_eq_false c1
      have HI : Aside0 (i = l.length) := ⟨by have := HJ.out; omega⟩
      have hk0 := (blk_cell HG.out) 0
      have hk1 := (blk_cell HG.out) 1
      have hk2 := (blk_cell HG.out) 2
      have hk3 := (blk_cell HG.out) 3
      have hk4 := (blk_cell HG.out) 4
      have hk5 := (blk_cell HG.out) 5
      have hk6 := (blk_cell HG.out) 6
      have hk7 := (blk_cell HG.out) 7
      have hkf0 := free_of HG.out 0
      have hkf1 := free_of HG.out 1
      have hkf2 := free_of HG.out 2
      have hkf3 := free_of HG.out 3
      have hkf4 := free_of HG.out 4
      have hkf5 := free_of HG.out 5
      have hkf6 := free_of HG.out 6
      have hkf7 := free_of HG.out 7
      clear c1
      go_wp2_with (fail)
      refine bodyPost_ret (v := .tuple #[.agg #[.int .i64 s.num, .int .i64 s.ph, .slice Af s.pl.1.length cf, .slice At s.pl.2.1.length ct, .slice As s.pl.2.2.1.length cs, .slice Ab s.pl.2.2.2.length cb, .slice Ao s.op.length co, .slice Ad s.dn.length cd], .int .i64 (l.length : Int), .int .i64 0]) (by simp [results, Tryd.results24, go_sem, hk0, hk1, hk2, hk3, hk4, hk5, hk6, hk7])  rfl ?_
      have hq := HQ.out
      rw [List.drop_of_length_le (by have := HI.out; omega)] at hq
      obtain ⟨h1, h2, h3⟩ := hq
      have hi := HI.out
      dsimp only [replay] at h1 h2 h3
      refine ⟨V, ?_, ?_, ?_⟩
      · rw [← h1, ← h3, ← h2, HSV.out, hi]; rfl
      · rw [← h1]; exact StR_sets (T := 34) (by decide) [(0, .int .i64 s.num), (1, .int .i64 s.ph), (2, .slice Af s.pl.1.length cf), (3, .slice At s.pl.2.1.length ct), (4, .slice As s.pl.2.2.1.length cs), (5, .slice Ab s.pl.2.2.2.length cb), (6, .slice Ao s.op.length co), (7, .slice Ad s.dn.length cd)] _ _ HG.out HV.out
      · exact Below_sets (Nat.le_refl _) [(0, .int .i64 s.num), (1, .int .i64 s.ph), (2, .slice Af s.pl.1.length cf), (3, .slice At s.pl.2.1.length ct), (4, .slice As s.pl.2.2.1.length cs), (5, .slice Ab s.pl.2.2.2.length cb), (6, .slice Ao s.op.length co), (7, .slice Ad s.dn.length cd)] _ HB.out
def smallB (l : List RR) (m : Int) : Bool := l.all (fun r => okPlan r.pl) && decide ((l.length : Int) ≤ m)
set_option maxHeartbeats 16000000 in
set_option maxRecDepth 20000 in
theorem small_T (l : List RR) (A : Option Addr) (c : Nat) (m : Int) (w : World) (h : Recs w A l) (hl : l.length ≤ 9223372036854775807) :
    Calls Tryd.prog 23 #[.slice A l.length c, .int .i64 m] w fun e w' => e = .returned (.bool (smallB l m)) ∧ Below w.heap.size w w' := by
  have HR := Aside0.mk h
  have HL := Aside0.mk hl
  clear h hl
  go_enter Tryd.func23, Tryd.ntmps23
  go_wp2
  go_loopg [6, 7, 8, 11] l.length (fun kq v6 v7 v8 v11 w' => ∃ (i : Nat), v11 = .int .i64 (i : Int) ∧ Aside0 (i + kq = l.length) ∧ Aside0 ((l.take i).all (fun r => okPlan r.pl) = true) ∧ Aside0 (Below w.heap.size w w'))
  case atStart => exact ⟨0, rfl, ⟨by omega⟩, ⟨by simp⟩, ⟨Below.refl _ _⟩⟩
  case round =>
    obtain ⟨i, rfl, HJ, HA, HB⟩ := hrel
    by_cases c1 : i < l.length
    · have e1 : decide (i < l.length) = true := decide_eq_true c1
      have HE5 : Aside0 (wrap64 ((i : Int) + 1) = ((i + 1 : Nat) : Int)) := ⟨by have := HL.out; unfold wrap64; omega⟩
      obtain ⟨ad, ea, hat⟩ := HR.out i c1
      cases ea
      have HI := Aside0.mk c1
      have HTK : Aside0 ((l.take (i + 1)).all (fun r => okPlan r.pl) = (true && okPlan (l.getD i rr0).pl)) := ⟨by rw [take_snoc' c1 rr0, List.all_append, HA.out]; simp⟩
      have HMM : Aside0 (l.getD i rr0 ∈ l) := ⟨getD_mem c1 _⟩
      obtain ⟨r, hr⟩ : ∃ r, l.getD i rr0 = r := ⟨_, rfl⟩
      rw [hr] at hat HTK HMM
      obtain ⟨Bf, df, Bt, dt, Bs, ds, Bb, db, hu, q0, q1, q2, q3, q4, q5⟩ := (hat.below HB.out).opened
      have hb2 := below_alloc (Below.refl wr.heap.size wr) (.cells #[.int .i64 r.kind, .int .i64 r.step, .slice Bf r.pl.1.length df, .slice Bt r.pl.2.1.length dt, .slice Bs r.pl.2.2.1.length ds, .slice Bb r.pl.2.2.2.length db] 39)
      have HW2 := Aside0.mk (heap_last wr (.cells #[.int .i64 r.kind, .int .i64 r.step, .slice Bf r.pl.1.length df, .slice Bt r.pl.2.1.length dt, .slice Bs r.pl.2.2.1.length ds, .slice Bb r.pl.2.2.2.length db] 39))
      have HB2 := Aside0.mk (below_step HB.out hb2)
      have K := Aside0.mk (Plan_T ⟨.slice Bf r.pl.1.length df, .slice Bt r.pl.2.1.length dt, .slice Bs r.pl.2.2.1.length ds, .slice Bb r.pl.2.2.2.length db⟩ r.pl (wr.alloc (.cells #[.int .i64 r.kind, .int .i64 r.step, .slice Bf r.pl.1.length df, .slice Bt r.pl.2.1.length dt, .slice Bs r.pl.2.2.1.length ds, .slice Bb r.pl.2.2.2.length db] 39)) (hu.below hb2))
      unfold plv at K
      dsimp only at K
      have hw2 := (blk_cell HW2.out) 2
      have hw3 := (blk_cell HW2.out) 3
      have hw4 := (blk_cell HW2.out) 4
      have hw5 := (blk_cell HW2.out) 5
      unfold Planned at K
      obtain ⟨B, hB⟩ : ∃ B, okPlan r.pl = B := ⟨_, rfl⟩
      rw [hB] at K HTK
      have HPP := Aside0.mk hB
      clear hr hat hb2 hu hB
      cases B with
      | true =>
        go_wp2_with (fail)
        refine K.out.mono ?_
        rintro e w3 ⟨B3, n3, c3, rfl, _, hb3⟩
        have HB3 := Aside0.mk (below_step HB2.out hb3)
        clear K hb3 q0 q1 q2 q3 q4 q5 hw2 hw3 hw4 hw5
        dsimp only
        go_wp2_with (fail)
        go_roundg (gk - 1)
        case measure => have := HJ.out; have := HI.out; omega
        case rel => exact ⟨i + 1, (by first | exact congrArg _ HE5.out | rfl), ⟨by have := HJ.out; have := HI.out; omega⟩, HTK, ⟨below_step HB3.out (below_alloc (Below.refl _ _) _)⟩⟩
      | false =>
        have HF : Aside0 (smallB l m = false) := ⟨by
          unfold smallB
          rw [Bool.and_eq_false_iff]
          left
          rw [List.all_eq_false]
          exact ⟨r, HMM.out, by rw [HPP.out]; simp⟩⟩
        go_wp2_with (fail)
        refine K.out.mono ?_
        rintro e w3 ⟨B3, n3, c3, rfl, _, hb3⟩
        have HB3 := Aside0.mk (below_step HB2.out hb3)
        clear K hb3 q0 q1 q2 q3 q4 q5 hw2 hw3 hw4 hw5
        dsimp only
        go_wp2_with (fail)
        go_ret
        exact ⟨by rw [HF.out]; rfl, below_step HB3.out (below_alloc (Below.refl _ _) _)⟩
    · have e1 : decide (i < l.length) = false := decide_eq_false c1
      have HF : Aside0 (smallB l m = decide ((l.length : Int) ≤ m)) := ⟨by
        have h := HA.out
        rw [List.take_of_length_le (by have := HJ.out; omega)] at h
        unfold smallB
        rw [h, Bool.true_and]⟩
      clear c1
      go_wp2_with (fail)
      go_ret
      exact ⟨by rw [HF.out]; rfl, HB.out⟩
end Go.Proofs.YtplhihakeodadaaDoor.Sg
