/- saga: the law SagaOwn, walked. (written by gen_own.py) -/
import Derived.Test.YtplhihakeodadaaDoorSgOw
import Derived.Test.YtplhihakeodadaaDoorSgFun7
namespace Go.Proofs.YtplhihakeodadaaDoor.Sg
open Go Go.RowKit Go.Proofs.YtplhihakeodadaaDoorW.PrintWords Go.Proofs.YtplhihakeodadaaDoorW.PrintLast Go.Proofs.YtplhihakeodadaaDoorW.PrintMore
set_option linter.unusedVariables false
set_option linter.unusedSimpArgs false
set_option maxHeartbeats 32000000 in
set_option maxRecDepth 20000 in
theorem SagaOwn_main (l : List RR) (A : Option Addr) (c : Nat) (w : World) (hT : TabW w) (h : Recs w A l) (hc : l.length ≤ c) (hl : l.length ≤ 9223372036854775807) :
    Calls Tryd.prog 4 #[.slice A l.length c] w fun e w' => e = .returned (.bool true) ∧ Below w.heap.size w w' := by
  have HT := Aside0.mk hT
  have HR := Aside0.mk h
  have HC := Aside0.mk hc
  have K1 := Aside0.mk (anchor_T w hT)
  have K2 := Aside0.mk (fun W (hb : Below w.heap.size w W) => small_T l A c 40 W (h.below hb) hl)
  obtain ⟨B, hB⟩ : ∃ B, smallB l 40 = B := ⟨_, rfl⟩
  simp only [hB] at K2
  have HSB := Aside0.mk hB
  clear hT h hl hB hc
  go_enter Tryd.func4, Tryd.ntmps4
  go_wp2_with (fail)
  refine K1.out.mono ?_
  rintro e w1 ⟨rfl, hb⟩
  have K3 := Aside0.mk (K2.out w1 hb)
  have HB1 := Aside0.mk hb
  clear K1 K2 hb
  go_wp2_with (fail)
  refine K3.out.mono ?_
  rintro e w2 ⟨rfl, hb⟩
  have HB2 := Aside0.mk (below_step HB1.out hb)
  clear K3 hb
  cases B with
  | false =>
    go_wp2
    go_ret
    exact ⟨rfl, HB2.out⟩
  | true =>
    have hsm := HSB.out
    unfold smallB at hsm
    rw [Bool.and_eq_true, List.all_eq_true, decide_eq_true_eq] at hsm
    have HP := Aside0.mk hsm.1
    have HL : Aside0 (l.length ≤ 40) := ⟨by have := hsm.2; omega⟩
    clear hsm
    obtain ⟨S, N, E, hS⟩ : ∃ S N E, replay ss0 l = (S, N, E) := ⟨_, _, _, rfl⟩
    obtain ⟨hN, hok, hend⟩ := replay_run l ss0 S N E hS
    have HN := Aside0.mk hN
    have HOK := Aside0.mk hok
    have HEND : Aside0 (stAt l N = S) := ⟨hend⟩
    have HBS : Aside0 (Bd 40 S) := ⟨hend ▸ (stAt_bd HP.out N hN).le (Nat.le_trans hN HL.out)⟩
    have K := Aside0.mk (Replay_T l A c w2 (HT.out.below HB2.out) (HR.out.below HB2.out) HP.out (Nat.le_trans HL.out (by decide)) S N E hS)
    clear hS hN hok hend
    go_wp2_with (fail)
    refine K.out.mono ?_
    rintro e w3 ⟨V1, rfl, hr, hb⟩
    obtain ⟨A1f, c1f, A1t, c1t, A1s, c1s, A1b, c1b, A1o, c1o, A1d, c1d, rfl⟩ := hr.opened
    have HB3 := Aside0.mk (below_step HB2.out hb)
    have HS3 := Aside0.mk (hr.lower (base' := 0) (Nat.zero_le _))
    clear K hr hb
    have hb4 := below_alloc (below_alloc (Below.refl w3.heap.size w3) (.cells #[.int .i64 S.num, .int .i64 S.ph, .slice A1f S.pl.1.length c1f, .slice A1t S.pl.2.1.length c1t, .slice A1s S.pl.2.2.1.length c1s, .slice A1b S.pl.2.2.2.length c1b, .slice A1o S.op.length c1o, .slice A1d S.dn.length c1d] 34)) (.cells #[.int .i64 0, .int .i64 0, .slice none 0 0, .slice none 0 0, .slice none 0 0, .slice none 0 0, .slice none 0 0, .slice none 0 0] 34)
    have HB4 := Aside0.mk hb4
    have HG4 := Aside0.mk (blk_alloc (heap_last w3 (.cells #[.int .i64 S.num, .int .i64 S.ph, .slice A1f S.pl.1.length c1f, .slice A1t S.pl.2.1.length c1t, .slice A1s S.pl.2.2.1.length c1s, .slice A1b S.pl.2.2.2.length c1b, .slice A1o S.op.length c1o, .slice A1d S.dn.length c1d] 34)) (.cells #[.int .i64 0, .int .i64 0, .slice none 0 0, .slice none 0 0, .slice none 0 0, .slice none 0 0, .slice none 0 0, .slice none 0 0] 34))
    have HX4 : Aside0 (((w3.alloc (.cells #[.int .i64 S.num, .int .i64 S.ph, .slice A1f S.pl.1.length c1f, .slice A1t S.pl.2.1.length c1t, .slice A1s S.pl.2.2.1.length c1s, .slice A1b S.pl.2.2.2.length c1b, .slice A1o S.op.length c1o, .slice A1d S.dn.length c1d] 34)).alloc (.cells #[.int .i64 0, .int .i64 0, .slice none 0 0, .slice none 0 0, .slice none 0 0, .slice none 0 0, .slice none 0 0, .slice none 0 0] 34)).heap[w3.heap.size + 1]? = some (.cells (stv sv0 ss0) 34 (0, 0))) := ⟨by have := heap_last (w3.alloc (.cells #[.int .i64 S.num, .int .i64 S.ph, .slice A1f S.pl.1.length c1f, .slice A1t S.pl.2.1.length c1t, .slice A1s S.pl.2.2.1.length c1s, .slice A1b S.pl.2.2.2.length c1b, .slice A1o S.op.length c1o, .slice A1d S.dn.length c1d] 34)) (.cells #[.int .i64 0, .int .i64 0, .slice none 0 0, .slice none 0 0, .slice none 0 0, .slice none 0 0, .slice none 0 0, .slice none 0 0] 34); rw [World.size_alloc] at this; exact this⟩
    obtain ⟨W4, hW4⟩ : ∃ W, (w3.alloc (.cells #[.int .i64 S.num, .int .i64 S.ph, .slice A1f S.pl.1.length c1f, .slice A1t S.pl.2.1.length c1t, .slice A1s S.pl.2.2.1.length c1s, .slice A1b S.pl.2.2.2.length c1b, .slice A1o S.op.length c1o, .slice A1d S.dn.length c1d] 34)).alloc (.cells #[.int .i64 0, .int .i64 0, .slice none 0 0, .slice none 0 0, .slice none 0 0, .slice none 0 0, .slice none 0 0, .slice none 0 0] 34) = W := ⟨_, rfl⟩
    have HZ4 : Aside0 (W4.heap.size = w3.heap.size + 2) := ⟨by rw [← hW4, World.size_alloc, World.size_alloc]⟩
    rw [hW4] at HB4 HG4 HX4
    have hsl : (N : Int) ≤ (l.length : Int) := by have := HN.out; omega
    have hsl2 : N ≤ c := Nat.le_trans HN.out HC.out
    have hsl3 : N ≤ l.length := HN.out
    clear hb4
    unfold stv
    dsimp only
    go_upto_region 7 with (fail)
    clear hW4
    go_wp2_with (fail)
    clear hsl hsl2 hsl3
    go_loopg [33] N (fun kq v33 w' => ∃ (i : Nat) (V : SV), v33 = .int .i64 (i : Int) ∧ Aside0 (i + kq = N) ∧ Aside0 (w'.heap[w3.heap.size + 1]? = some (.cells (stv V (stAt l i)) 34 (0, 0))) ∧ Aside0 (StR w' (w3.heap.size + 2) V (stAt l i)) ∧ Aside0 (Below (w3.heap.size + 1) W4 w') ∧ Aside0 (w3.heap.size + 2 ≤ w'.heap.size))
    case atStart => exact ⟨0, sv0, rfl, ⟨by omega⟩, HX4, ⟨StR.zero _ _⟩, ⟨Below.refl _ _⟩, ⟨by rw [HZ4.out]; exact Nat.le_refl _⟩⟩
    case round =>
      clear HX4
      obtain ⟨i, V, rfl, HJ, HG, HV, HB, HSZ⟩ := hrel
      have HBW := Aside0.mk (below_step HB3.out (HB4.out.trans (HB.out.mono (Nat.le_succ _))))
      have HGS : Aside0 (wr.heap[w3.heap.size]? = some (.cells #[.int .i64 S.num, .int .i64 S.ph, .slice A1f S.pl.1.length c1f, .slice A1t S.pl.2.1.length c1t, .slice A1s S.pl.2.2.1.length c1s, .slice A1b S.pl.2.2.2.length c1b, .slice A1o S.op.length c1o, .slice A1d S.dn.length c1d] 34 (0, 0))) := ⟨(HB.out.block _ (Nat.lt_succ_self _)).trans HG4.out⟩
      by_cases c1 : i < N
      · have e1 : decide (i < N) = true := decide_eq_true c1
        have HI := Aside0.mk c1
        have HE5 : Aside0 (wrap64 ((i : Int) + 1) = ((i + 1 : Nat) : Int)) := ⟨by have := HL.out; have := HN.out; unfold wrap64; omega⟩
        have hil : i < l.length := by have := HN.out; omega
        obtain ⟨ad, ea, hat⟩ := HR.out i hil
        cases ea
        have HM : Aside0 (okPlan (l.getD i rr0).pl = true) := ⟨HP.out _ (getD_mem hil _)⟩
        have HTK : Aside0 (take (stAt l i) (l.getD i rr0) = (stAt l (i + 1), 0)) := ⟨Prod.ext (stAt_succ hil).symm (HOK.out i c1)⟩
        have HBD : Aside0 (Bd 1000000 (stAt l i)) := ⟨(stAt_bd HP.out i (by omega)).le (by have := HL.out; omega)⟩
        obtain ⟨r, hr⟩ : ∃ r, l.getD i rr0 = r := ⟨_, rfl⟩
        obtain ⟨t, ht⟩ : ∃ t, stAt l i = t := ⟨_, rfl⟩
        obtain ⟨t', ht'⟩ : ∃ t, stAt l (i + 1) = t := ⟨_, rfl⟩
        rw [hr] at hat HM HTK
        rw [ht] at HG HV HTK HBD
        rw [ht'] at HTK
        have HT1 := Aside0.mk ht'
        obtain ⟨Bf, df, Bt, dt, Bs, ds, Bb, db, hu, q0, q1, q2, q3, q4, q5⟩ := (hat.below HBW.out).opened
        obtain ⟨Azf, czf, Azt, czt, Azs, czs, Azb, czb, Azo, czo, Azd, czd, rfl⟩ := HV.out.opened
        have hstv : stv ⟨⟨.slice Azf t.pl.1.length czf, .slice Azt t.pl.2.1.length czt, .slice Azs t.pl.2.2.1.length czs, .slice Azb t.pl.2.2.2.length czb⟩, .slice Azo t.op.length czo, .slice Azd t.dn.length czd⟩ t = #[.int .i64 t.num, .int .i64 t.ph, .slice Azf t.pl.1.length czf, .slice Azt t.pl.2.1.length czt, .slice Azs t.pl.2.2.1.length czs, .slice Azb t.pl.2.2.2.length czb, .slice Azo t.op.length czo, .slice Azd t.dn.length czd] := rfl
        have HSV := Aside0.mk hstv
        rw [hstv] at HG
        have hb6 := below_alloc (below_alloc (Below.refl wr.heap.size wr) (.cells #[.int .i64 r.kind, .int .i64 r.step, .slice Bf r.pl.1.length df, .slice Bt r.pl.2.1.length dt, .slice Bs r.pl.2.2.1.length ds, .slice Bb r.pl.2.2.2.length db] 39)) (.cells #[.slice Bf r.pl.1.length df, .slice Bt r.pl.2.1.length dt, .slice Bs r.pl.2.2.1.length ds, .slice Bb r.pl.2.2.2.length db] 26)
        have HX6 := Aside0.mk (blk_alloc (heap_last wr (.cells #[.int .i64 r.kind, .int .i64 r.step, .slice Bf r.pl.1.length df, .slice Bt r.pl.2.1.length dt, .slice Bs r.pl.2.2.1.length ds, .slice Bb r.pl.2.2.2.length db] 39)) (.cells #[.slice Bf r.pl.1.length df, .slice Bt r.pl.2.1.length dt, .slice Bs r.pl.2.2.1.length ds, .slice Bb r.pl.2.2.2.length db] 26))
        have HY6 : Aside0 (((wr.alloc (.cells #[.int .i64 r.kind, .int .i64 r.step, .slice Bf r.pl.1.length df, .slice Bt r.pl.2.1.length dt, .slice Bs r.pl.2.2.1.length ds, .slice Bb r.pl.2.2.2.length db] 39)).alloc (.cells #[.slice Bf r.pl.1.length df, .slice Bt r.pl.2.1.length dt, .slice Bs r.pl.2.2.1.length ds, .slice Bb r.pl.2.2.2.length db] 26)).heap[wr.heap.size + 1]? = some (.cells #[.slice Bf r.pl.1.length df, .slice Bt r.pl.2.1.length dt, .slice Bs r.pl.2.2.1.length ds, .slice Bb r.pl.2.2.2.length db] 26)) := ⟨by have := heap_last (wr.alloc (.cells #[.int .i64 r.kind, .int .i64 r.step, .slice Bf r.pl.1.length df, .slice Bt r.pl.2.1.length dt, .slice Bs r.pl.2.2.1.length ds, .slice Bb r.pl.2.2.2.length db] 39)) (.cells #[.slice Bf r.pl.1.length df, .slice Bt r.pl.2.1.length dt, .slice Bs r.pl.2.2.1.length ds, .slice Bb r.pl.2.2.2.length db] 26); rw [World.size_alloc] at this; exact this⟩
        have HB6 := Aside0.mk hb6
        have HU6 := Aside0.mk (hu.below hb6)
        obtain ⟨W6, hW6⟩ : ∃ W, (wr.alloc (.cells #[.int .i64 r.kind, .int .i64 r.step, .slice Bf r.pl.1.length df, .slice Bt r.pl.2.1.length dt, .slice Bs r.pl.2.2.1.length ds, .slice Bb r.pl.2.2.2.length db] 39)).alloc (.cells #[.slice Bf r.pl.1.length df, .slice Bt r.pl.2.1.length dt, .slice Bs r.pl.2.2.1.length ds, .slice Bb r.pl.2.2.2.length db] 26) = W := ⟨_, rfl⟩
        have HZ6 : Aside0 (W6.heap.size = wr.heap.size + 2) := ⟨by rw [← hW6, World.size_alloc, World.size_alloc]⟩
        rw [hW6] at HB6 HX6 HY6 HU6
        clear hr ht ht' hat hu hstv hb6 hil
        go_upto_region 11 with (fail)
        clear hW6 q0 q1 q2 q3 q4 q5 e1 c1
        go_cut [] (fun wx => ∃ V' : PV, Aside0 (wx.heap[wr.heap.size]? = some (.cells #[.int .i64 r.kind, .int .i64 r.step, V'.f, V'.t, V'.st, V'.b] 39 (0, 0))) ∧ Aside0 (PlR wx (wr.heap.size + 2) V' r.pl) ∧ Aside0 (Below wr.heap.size wr wx))
        case first =>
          clear HG HV HB HBW HGS HTK HBD HT1 HSV HJ HI HE5
          have hy0 := (blk_cell (blk_drew HY6.out)) 0
          have hy1 := (blk_cell (blk_drew HY6.out)) 1
          have hy2 := (blk_cell (blk_drew HY6.out)) 2
          have hy3 := (blk_cell (blk_drew HY6.out)) 3
          refine wp_region_part (S := fun w' => w'.cell? ⟨wr.heap.size + 1, 0, none⟩ = some (.slice Bf r.pl.1.length df) ∧ w'.cell? ⟨wr.heap.size + 1, 1, none⟩ = some (.slice Bt r.pl.2.1.length dt) ∧ w'.cell? ⟨wr.heap.size + 1, 2, none⟩ = some (.slice Bs r.pl.2.2.1.length ds) ∧ w'.cell? ⟨wr.heap.size + 1, 3, none⟩ = some (.slice Bb r.pl.2.2.2.length db)) 16 (by kernel_rfl) (by kernel_rfl) ⟨hy0, hy1, hy2, hy3⟩ (fun hHeld => ?_)
          simp only [List.take_succ_cons, List.take_zero]
          refine wpAnyH_take (i := 1) (oi := { dst := _, op := _, type := _, pos := _, after := _, guard := _ }) (v := ?_) rfl (by kernel_rfl) (by kernel_rfl) (by kernel_rfl) (fun _ _ _ h => h) (Or.inl ⟨by rfl, ?_⟩) (by assumption) ?_
          rotate_left
          · (intro wq hSw; (try dsimp only at hSw); go_simp <;> with_reducible rfl)
          (try simp only [Act.put, List.setIfInBounds_toArray, List.set_cons_zero, List.set_cons_succ])
          refine wpAnyH_take (i := 2) (oi := { dst := _, op := _, type := _, pos := _, after := _, guard := _ }) (v := ?_) rfl (by kernel_rfl) (by kernel_rfl) (by kernel_rfl) (fun _ _ _ h => h) (Or.inl ⟨by rfl, ?_⟩) (by assumption) ?_
          rotate_left
          · (intro wq hSw; (try dsimp only at hSw); go_simp <;> with_reducible rfl)
          (try simp only [Act.put, List.setIfInBounds_toArray, List.set_cons_zero, List.set_cons_succ])
          refine wpAnyH_take (i := 5) (oi := { dst := _, op := _, type := _, pos := _, after := _, guard := _ }) (v := ?_) rfl (by kernel_rfl) (by kernel_rfl) (by kernel_rfl) (fun _ _ _ h => h) (Or.inl ⟨by rfl, ?_⟩) (by assumption) ?_
          rotate_left
          · (intro wq hSw; (try dsimp only at hSw); go_simp <;> with_reducible rfl)
          (try simp only [Act.put, List.setIfInBounds_toArray, List.set_cons_zero, List.set_cons_succ])
          refine wpAnyH_take (i := 6) (oi := { dst := _, op := _, type := _, pos := _, after := _, guard := _ }) (v := ?_) rfl (by kernel_rfl) (by kernel_rfl) (by kernel_rfl) (fun _ _ _ h => h) (Or.inl ⟨by rfl, ?_⟩) (by assumption) ?_
          rotate_left
          · (intro wq hSw; (try dsimp only at hSw); go_simp <;> with_reducible rfl)
          (try simp only [Act.put, List.setIfInBounds_toArray, List.set_cons_zero, List.set_cons_succ])
          refine wpAnyH_take (i := 9) (oi := { dst := _, op := _, type := _, pos := _, after := _, guard := _ }) (v := ?_) rfl (by kernel_rfl) (by kernel_rfl) (by kernel_rfl) (fun _ _ _ h => h) (Or.inl ⟨by rfl, ?_⟩) (by assumption) ?_
          rotate_left
          · (intro wq hSw; (try dsimp only at hSw); go_simp <;> with_reducible rfl)
          (try simp only [Act.put, List.setIfInBounds_toArray, List.set_cons_zero, List.set_cons_succ])
          refine wpAnyH_take (i := 10) (oi := { dst := _, op := _, type := _, pos := _, after := _, guard := _ }) (v := ?_) rfl (by kernel_rfl) (by kernel_rfl) (by kernel_rfl) (fun _ _ _ h => h) (Or.inl ⟨by rfl, ?_⟩) (by assumption) ?_
          rotate_left
          · (intro wq hSw; (try dsimp only at hSw); go_simp <;> with_reducible rfl)
          (try simp only [Act.put, List.setIfInBounds_toArray, List.set_cons_zero, List.set_cons_succ])
          refine wpAnyH_take (i := 13) (oi := { dst := _, op := _, type := _, pos := _, after := _, guard := _ }) (v := ?_) rfl (by kernel_rfl) (by kernel_rfl) (by kernel_rfl) (fun _ _ _ h => h) (Or.inl ⟨by rfl, ?_⟩) (by assumption) ?_
          rotate_left
          · (intro wq hSw; (try dsimp only at hSw); go_simp <;> with_reducible rfl)
          (try simp only [Act.put, List.setIfInBounds_toArray, List.set_cons_zero, List.set_cons_succ])
          refine wpAnyH_take (i := 14) (oi := { dst := _, op := _, type := _, pos := _, after := _, guard := _ }) (v := ?_) rfl (by kernel_rfl) (by kernel_rfl) (by kernel_rfl) (fun _ _ _ h => h) (Or.inl ⟨by rfl, ?_⟩) (by assumption) ?_
          rotate_left
          · (intro wq hSw; (try dsimp only at hSw); go_simp <;> with_reducible rfl)
          (try simp only [Act.put, List.setIfInBounds_toArray, List.set_cons_zero, List.set_cons_succ])
          generalize hA0 : (Act.mk _ _) = A0
          have hsz : A0.tmps.size = 158 := by rw [← hA0]; rfl
          have e41 : A0.eval (.tmp 41) = .slice Bf r.pl.1.length df := by rw [← hA0]; rfl
          have e45 : A0.eval (.tmp 45) = .slice Bt r.pl.2.1.length dt := by rw [← hA0]; rfl
          have e49 : A0.eval (.tmp 49) = .slice Bs r.pl.2.2.1.length ds := by rw [← hA0]; rfl
          have e53 : A0.eval (.tmp 53) = .slice Bb r.pl.2.2.2.length db := by rw [← hA0]; rfl
          have HLE := Aside0.mk (okPlan_le HM.out)
          obtain ⟨⟨_, _, z0, _, hC0⟩, ⟨_, _, z1, _, hC1⟩, ⟨_, _, z2, _, hC2⟩, ⟨_, _, z3, _, hC3⟩⟩ := HU6.out
          cases z0
          cases z1
          cases z2
          cases z3
          clear hHeld
          refine wpAnyH_og (fun listed a w => listed.size = 16 ∧ (listed.getD 1 false = true ∧ listed.getD 2 false = true ∧ listed.getD 5 false = true ∧ listed.getD 6 false = true ∧ listed.getD 9 false = true ∧ listed.getD 10 false = true ∧ listed.getD 13 false = true ∧ listed.getD 14 false = true) ∧ a.defers = A0.defers ∧ a.tmps.size = A0.tmps.size ∧ (∀ k, k ∉ [39, 42, 43, 46, 47, 50, 51, 54] → a.tmps[k]? = A0.tmps[k]?) ∧ Below W6.heap.size W6.drew w ∧ ∃ lab : Nat → Nat, Ch kI 3 W6.heap.size w lab 0 (listed.getD 0 false) (listed.getD 3 false) (a.eval (.tmp 39)) (a.eval (.tmp 42)) r.pl.1 ∧ Ch kI 3 W6.heap.size w lab 1 (listed.getD 4 false) (listed.getD 7 false) (a.eval (.tmp 43)) (a.eval (.tmp 46)) r.pl.2.1 ∧ Ch kP 50 W6.heap.size w lab 2 (listed.getD 8 false) (listed.getD 11 false) (a.eval (.tmp 47)) (a.eval (.tmp 50)) r.pl.2.2.1 ∧ Ch kP 74 W6.heap.size w lab 3 (listed.getD 12 false) (listed.getD 15 false) (a.eval (.tmp 51)) (a.eval (.tmp 54)) r.pl.2.2.2) ?hS ?hsz ?step ?done _ _ _ _ ?cnt ?start
          case hS =>
            rintro listed a w ⟨_, _, _, _, _, hb, _⟩
            exact ⟨pw_cell_below hb hy0, pw_cell_below hb hy1, pw_cell_below hb hy2, pw_cell_below hb hy3⟩
          case hsz => exact fun listed a w h => h.1
          case cnt => decide
          case start =>
            refine ⟨rfl, ⟨rfl, rfl, rfl, rfl, rfl, rfl, rfl, rfl⟩, rfl, rfl, fun k _ => rfl, Below.refl _ _, fun _ => 0, ⟨?_, ?_⟩, ⟨?_, ?_⟩, ⟨?_, ?_⟩, ⟨?_, ?_⟩⟩
            all_goals (intro h; cases h)
          case done =>
            rintro listed a w ⟨hls, _, hde, hts, hfr, hb, lab, ch0, ch1, ch2, ch3⟩ h0
            have hall := ready_all rfl (by kernel_rfl) hls h0
            have R0 := ch0.f (hall 3 (by decide))
            have R1 := ch1.f (hall 7 (by decide))
            have R2 := ch2.f (hall 11 (by decide))
            have R3 := ch3.f (hall 15 (by decide))
            obtain ⟨A42, c42, e42⟩ := Kd.R_slice R0
            obtain ⟨A46, c46, e46⟩ := Kd.R_slice R1
            obtain ⟨A50, c50, e50⟩ := Kd.R_slice R2
            obtain ⟨A54, c54, e54⟩ := Kd.R_slice R3
            rw [e42] at R0
            rw [e46] at R1
            rw [e50] at R2
            rw [e54] at R3
            obtain ⟨v39, e39⟩ : ∃ v, a.eval (.tmp 39) = v := ⟨_, rfl⟩
            obtain ⟨v43, e43⟩ : ∃ v, a.eval (.tmp 43) = v := ⟨_, rfl⟩
            obtain ⟨v47, e47⟩ : ∃ v, a.eval (.tmp 47) = v := ⟨_, rfl⟩
            obtain ⟨v51, e51⟩ : ∃ v, a.eval (.tmp 51) = v := ⟨_, rfl⟩
            have ha := act_eq [39, 42, 43, 46, 47, 50, 51, 54] A0 a hde hts hfr
            simp only [List.foldl_cons, List.foldl_nil, e39, e42, e43, e46, e47, e50, e51, e54] at ha
            have HXW := Aside0.mk (blk_below (blk_drew HX6.out) hb)
            have HBW := Aside0.mk (below_step (below_drew1 HB6.out) hb)
            have HP0 := Aside0.mk (show PlR w W6.heap.size ⟨.slice A42 r.pl.1.length c42, .slice A46 r.pl.2.1.length c46, .slice A50 r.pl.2.2.1.length c50, .slice A54 r.pl.2.2.2.length c54⟩ r.pl from ⟨Kd.R_mono R0 (fun _ _ => trivial), Kd.R_mono R1 (fun _ _ => trivial), Kd.R_mono R2 (fun _ _ => trivial), Kd.R_mono R3 (fun _ _ => trivial)⟩)
            clear hfr hts hde ch0 ch1 ch2 ch3 hall h0 hls e39 e42 e43 e46 e47 e50 e51 e54 R0 R1 R2 R3
            subst ha
            rw [← hA0]
            clear hA0 e41 e45 e49 e53 hsz hy0 hy1 hy2 hy3
            simp only [Act.put, List.setIfInBounds_toArray, List.set_cons_zero, List.set_cons_succ]
            refine Part.norm ?_
            simp only [List.drop_succ_cons, List.drop_zero]
            have hf2 := free_of HXW.out 2
            have hf3 := free_of HXW.out 3
            have hf4 := free_of HXW.out 4
            have hf5 := free_of HXW.out 5
            have hz2 := (blk_cell HXW.out) 2
            have hz3 := (blk_cell HXW.out) 3
            have hz4 := (blk_cell HXW.out) 4
            have hz5 := (blk_cell HXW.out) 5
            clear hb
            go_wp2_with (fail)
            have hp := HP0.out
            rw [HZ6.out] at hp
            obtain ⟨wx, hwx⟩ : ∃ W, sets wr.heap.size w [(2, .slice A42 r.pl.1.length c42), (3, .slice A46 r.pl.2.1.length c46), (4, .slice A50 r.pl.2.2.1.length c50), (5, .slice A54 r.pl.2.2.2.length c54)] = W := ⟨_, rfl⟩
            have hgx := box_rec HXW.out (.slice A42 r.pl.1.length c42) (.slice A46 r.pl.2.1.length c46) (.slice A50 r.pl.2.2.1.length c50) (.slice A54 r.pl.2.2.2.length c54)
            have hpx := PlR_sets (T := 39) (by decide) [(2, .slice A42 r.pl.1.length c42), (3, .slice A46 r.pl.2.1.length c46), (4, .slice A50 r.pl.2.2.1.length c50), (5, .slice A54 r.pl.2.2.2.length c54)] w _ HXW.out hp
            have hbx := Below_sets (Nat.le_refl _) [(2, .slice A42 r.pl.1.length c42), (3, .slice A46 r.pl.2.1.length c46), (4, .slice A50 r.pl.2.2.1.length c50), (5, .slice A54 r.pl.2.2.2.length c54)] w HBW.out
            rw [hwx] at hgx hpx hbx
            have hwx' := hwx
            simp only [sets, List.foldl] at hwx'
            rw [hwx']
            go_meet
            exact ⟨⟨.slice A42 r.pl.1.length c42, .slice A46 r.pl.2.1.length c46, .slice A50 r.pl.2.2.1.length c50, .slice A54 r.pl.2.2.2.length c54⟩, ⟨hgx⟩, ⟨hpx⟩, ⟨hbx⟩⟩
          case step =>
            rintro listed a w i ⟨hls, ⟨g1, g2, g5, g6, g9, g10, g13, g14⟩, hde, hts, hfr, hb, lab, ch0, ch1, ch2, ch3⟩ hr
            obtain ⟨hi1, o, ho, haf⟩ := mem_ready.1 hr
            have hi := (ready_lt hr hls).1
            rw [hls] at hi
            match i, hi with
            | 0, _ =>
              refine wpOp_of_step (o := { dst := _, op := _, type := _, pos := _, after := _, guard := _ }) rfl ?_
              refine Kd.R_lit_step kI (w0 := W6.drew) W6.heap.size 3 (by simp [Region.wanted]) (N := 39) rfl (xs := []) (inner := []) (ok := fun k => labN lab w.heap.size 0 k = 0) (okp := fun k => labN lab w.heap.size 0 k = 0) ?hrun (Reps.none _ _) (fun _ hk => hk) (labN_ge (Nat.le_refl _)) hb hb.size (by simp) ?_
              case hrun => first | (go_simp; done) | (go_simp; rfl)
              intro v1 w1 hR hb1 hg hown
              refine ⟨by simpa using hls, ⟨by rw [getD_set_ne (by decide)]; exact g1, by rw [getD_set_ne (by decide)]; exact g2, by rw [getD_set_ne (by decide)]; exact g5, by rw [getD_set_ne (by decide)]; exact g6, by rw [getD_set_ne (by decide)]; exact g9, by rw [getD_set_ne (by decide)]; exact g10, by rw [getD_set_ne (by decide)]; exact g13, by rw [getD_set_ne (by decide)]; exact g14⟩, hde, by rw [put_size]; exact hts, put_frame (by decide) hfr, hb1, labN lab w.heap.size 0, ⟨fun _ _ => (by rw [eval_put_eq (by rw [hts, hsz]; decide)]; exact hR), fun h => (by rw [eval_put_ne (by decide)]; rw [getD_set_ne (by decide)] at h; exact (ch0.move hg (fun r e => by cases e) (fun k hk => labN_lt hk)).f h)⟩, (by rw [getD_set_ne (by decide), getD_set_ne (by decide), eval_put_ne (by decide), eval_put_ne (by decide)]; exact ch1.move hg (fun r e => by cases e) (fun k hk => labN_lt hk)), (by rw [getD_set_ne (by decide), getD_set_ne (by decide), eval_put_ne (by decide), eval_put_ne (by decide)]; exact ch2.move hg (fun r e => by cases e) (fun k hk => labN_lt hk)), (by rw [getD_set_ne (by decide), getD_set_ne (by decide), eval_put_ne (by decide), eval_put_ne (by decide)]; exact ch3.move hg (fun r e => by cases e) (fun k hk => labN_lt hk))⟩
            | 1, _ =>
              have h1 := getD_tf hi1
              rw [g1] at h1
              cases h1
            | 2, _ =>
              have h1 := getD_tf hi1
              rw [g2] at h1
              cases h1
            | 3, _ =>
              have hbf : listed.getD 0 false = true := by
                have h2 := haf
                cases ho
                exact h2 ⟨0, .data⟩ (by simp) rfl
              have hR0 := ch0.e hbf (getD_tf hi1)
              obtain ⟨A1, c1, hv⟩ := Kd.R_slice hR0
              refine wpOp_of_step (o := { dst := _, op := _, type := _, pos := _, after := _, guard := _ }) rfl ?_
              refine Kd.R_append_rows_step kI (w0 := W6.drew) W6.heap.size (by simp [Region.wanted]) (.tmp 39) (.tmp 41) 22 3 (.int .i64 0) 8 rfl (by kernel_rfl) info_int rfl (by decide) (by decide) (a.eval (.tmp 39)) [] r.pl.1 Bf r.pl.1.length df (fun k => labN lab w.heap.size 0 k = 0) (fun k => labN lab w.heap.size 0 k = 0 ∧ some k ≠ (a.eval (.tmp 39)).ownBlock) rfl ((eval_frame hfr 41 (by decide)).trans e41) (R_labN hR0 0) (Kd.C_below (Kd.C_below hC0 (below_drew (Below.refl _ _))) hb) (fun _ _ h => h) (fun k hk => hk) (fun k hk => labN_ge hk) hb hb.size (by have := HLE.out; simp only [List.length_nil]; omega) ?_
              intro v1 w1 hR hb1 hg hown
              rw [List.nil_append] at hR
              have hrow : ∀ c', c' ≠ 0 → ∀ r, (a.eval (.tmp 39)).ownBlock = some r → lab r ≠ c' := fun c' hc r e h => hc (h.symm.trans (hR0.1 r e))
              refine ⟨by simpa using hls, ⟨by rw [getD_set_ne (by decide)]; exact g1, by rw [getD_set_ne (by decide)]; exact g2, by rw [getD_set_ne (by decide)]; exact g5, by rw [getD_set_ne (by decide)]; exact g6, by rw [getD_set_ne (by decide)]; exact g9, by rw [getD_set_ne (by decide)]; exact g10, by rw [getD_set_ne (by decide)]; exact g13, by rw [getD_set_ne (by decide)]; exact g14⟩, hde, by rw [put_size]; exact hts, put_frame (by decide) hfr, hb1, labN lab w.heap.size 0, ⟨fun _ h => (by rw [getD_set_eq (by rw [hls]; decide)] at h; cases h), fun _ => (by rw [eval_put_eq (by rw [hts, hsz]; decide)]; exact hR)⟩, (by rw [getD_set_ne (by decide), getD_set_ne (by decide), eval_put_ne (by decide), eval_put_ne (by decide)]; exact ch1.move hg (hrow 1 (by decide)) (fun k hk => labN_lt hk)), (by rw [getD_set_ne (by decide), getD_set_ne (by decide), eval_put_ne (by decide), eval_put_ne (by decide)]; exact ch2.move hg (hrow 2 (by decide)) (fun k hk => labN_lt hk)), (by rw [getD_set_ne (by decide), getD_set_ne (by decide), eval_put_ne (by decide), eval_put_ne (by decide)]; exact ch3.move hg (hrow 3 (by decide)) (fun k hk => labN_lt hk))⟩
            | 4, _ =>
              refine wpOp_of_step (o := { dst := _, op := _, type := _, pos := _, after := _, guard := _ }) rfl ?_
              refine Kd.R_lit_step kI (w0 := W6.drew) W6.heap.size 3 (by simp [Region.wanted]) (N := 43) rfl (xs := []) (inner := []) (ok := fun k => labN lab w.heap.size 1 k = 1) (okp := fun k => labN lab w.heap.size 1 k = 1) ?hrun (Reps.none _ _) (fun _ hk => hk) (labN_ge (Nat.le_refl _)) hb hb.size (by simp) ?_
              case hrun => first | (go_simp; done) | (go_simp; rfl)
              intro v1 w1 hR hb1 hg hown
              refine ⟨by simpa using hls, ⟨by rw [getD_set_ne (by decide)]; exact g1, by rw [getD_set_ne (by decide)]; exact g2, by rw [getD_set_ne (by decide)]; exact g5, by rw [getD_set_ne (by decide)]; exact g6, by rw [getD_set_ne (by decide)]; exact g9, by rw [getD_set_ne (by decide)]; exact g10, by rw [getD_set_ne (by decide)]; exact g13, by rw [getD_set_ne (by decide)]; exact g14⟩, hde, by rw [put_size]; exact hts, put_frame (by decide) hfr, hb1, labN lab w.heap.size 1, (by rw [getD_set_ne (by decide), getD_set_ne (by decide), eval_put_ne (by decide), eval_put_ne (by decide)]; exact ch0.move hg (fun r e => by cases e) (fun k hk => labN_lt hk)), ⟨fun _ _ => (by rw [eval_put_eq (by rw [hts, hsz]; decide)]; exact hR), fun h => (by rw [eval_put_ne (by decide)]; rw [getD_set_ne (by decide)] at h; exact (ch1.move hg (fun r e => by cases e) (fun k hk => labN_lt hk)).f h)⟩, (by rw [getD_set_ne (by decide), getD_set_ne (by decide), eval_put_ne (by decide), eval_put_ne (by decide)]; exact ch2.move hg (fun r e => by cases e) (fun k hk => labN_lt hk)), (by rw [getD_set_ne (by decide), getD_set_ne (by decide), eval_put_ne (by decide), eval_put_ne (by decide)]; exact ch3.move hg (fun r e => by cases e) (fun k hk => labN_lt hk))⟩
            | 5, _ =>
              have h1 := getD_tf hi1
              rw [g5] at h1
              cases h1
            | 6, _ =>
              have h1 := getD_tf hi1
              rw [g6] at h1
              cases h1
            | 7, _ =>
              have hbf : listed.getD 4 false = true := by
                have h2 := haf
                cases ho
                exact h2 ⟨4, .data⟩ (by simp) rfl
              have hR0 := ch1.e hbf (getD_tf hi1)
              obtain ⟨A1, c1, hv⟩ := Kd.R_slice hR0
              refine wpOp_of_step (o := { dst := _, op := _, type := _, pos := _, after := _, guard := _ }) rfl ?_
              refine Kd.R_append_rows_step kI (w0 := W6.drew) W6.heap.size (by simp [Region.wanted]) (.tmp 43) (.tmp 45) 22 3 (.int .i64 0) 8 rfl (by kernel_rfl) info_int rfl (by decide) (by decide) (a.eval (.tmp 43)) [] r.pl.2.1 Bt r.pl.2.1.length dt (fun k => labN lab w.heap.size 1 k = 1) (fun k => labN lab w.heap.size 1 k = 1 ∧ some k ≠ (a.eval (.tmp 43)).ownBlock) rfl ((eval_frame hfr 45 (by decide)).trans e45) (R_labN hR0 1) (Kd.C_below (Kd.C_below hC1 (below_drew (Below.refl _ _))) hb) (fun _ _ h => h) (fun k hk => hk) (fun k hk => labN_ge hk) hb hb.size (by have := HLE.out; simp only [List.length_nil]; omega) ?_
              intro v1 w1 hR hb1 hg hown
              rw [List.nil_append] at hR
              have hrow : ∀ c', c' ≠ 1 → ∀ r, (a.eval (.tmp 43)).ownBlock = some r → lab r ≠ c' := fun c' hc r e h => hc (h.symm.trans (hR0.1 r e))
              refine ⟨by simpa using hls, ⟨by rw [getD_set_ne (by decide)]; exact g1, by rw [getD_set_ne (by decide)]; exact g2, by rw [getD_set_ne (by decide)]; exact g5, by rw [getD_set_ne (by decide)]; exact g6, by rw [getD_set_ne (by decide)]; exact g9, by rw [getD_set_ne (by decide)]; exact g10, by rw [getD_set_ne (by decide)]; exact g13, by rw [getD_set_ne (by decide)]; exact g14⟩, hde, by rw [put_size]; exact hts, put_frame (by decide) hfr, hb1, labN lab w.heap.size 1, (by rw [getD_set_ne (by decide), getD_set_ne (by decide), eval_put_ne (by decide), eval_put_ne (by decide)]; exact ch0.move hg (hrow 0 (by decide)) (fun k hk => labN_lt hk)), ⟨fun _ h => (by rw [getD_set_eq (by rw [hls]; decide)] at h; cases h), fun _ => (by rw [eval_put_eq (by rw [hts, hsz]; decide)]; exact hR)⟩, (by rw [getD_set_ne (by decide), getD_set_ne (by decide), eval_put_ne (by decide), eval_put_ne (by decide)]; exact ch2.move hg (hrow 2 (by decide)) (fun k hk => labN_lt hk)), (by rw [getD_set_ne (by decide), getD_set_ne (by decide), eval_put_ne (by decide), eval_put_ne (by decide)]; exact ch3.move hg (hrow 3 (by decide)) (fun k hk => labN_lt hk))⟩
            | 8, _ =>
              refine wpOp_of_step (o := { dst := _, op := _, type := _, pos := _, after := _, guard := _ }) rfl ?_
              refine Kd.R_lit_step kP (w0 := W6.drew) W6.heap.size 50 (by simp [Region.wanted]) (N := 47) rfl (xs := []) (inner := []) (ok := fun k => labN lab w.heap.size 2 k = 2) (okp := fun k => labN lab w.heap.size 2 k = 2) ?hrun (Reps.none _ _) (fun _ hk => hk) (labN_ge (Nat.le_refl _)) hb hb.size (by simp) ?_
              case hrun => first | (go_simp; done) | (go_simp; rfl)
              intro v1 w1 hR hb1 hg hown
              refine ⟨by simpa using hls, ⟨by rw [getD_set_ne (by decide)]; exact g1, by rw [getD_set_ne (by decide)]; exact g2, by rw [getD_set_ne (by decide)]; exact g5, by rw [getD_set_ne (by decide)]; exact g6, by rw [getD_set_ne (by decide)]; exact g9, by rw [getD_set_ne (by decide)]; exact g10, by rw [getD_set_ne (by decide)]; exact g13, by rw [getD_set_ne (by decide)]; exact g14⟩, hde, by rw [put_size]; exact hts, put_frame (by decide) hfr, hb1, labN lab w.heap.size 2, (by rw [getD_set_ne (by decide), getD_set_ne (by decide), eval_put_ne (by decide), eval_put_ne (by decide)]; exact ch0.move hg (fun r e => by cases e) (fun k hk => labN_lt hk)), (by rw [getD_set_ne (by decide), getD_set_ne (by decide), eval_put_ne (by decide), eval_put_ne (by decide)]; exact ch1.move hg (fun r e => by cases e) (fun k hk => labN_lt hk)), ⟨fun _ _ => (by rw [eval_put_eq (by rw [hts, hsz]; decide)]; exact hR), fun h => (by rw [eval_put_ne (by decide)]; rw [getD_set_ne (by decide)] at h; exact (ch2.move hg (fun r e => by cases e) (fun k hk => labN_lt hk)).f h)⟩, (by rw [getD_set_ne (by decide), getD_set_ne (by decide), eval_put_ne (by decide), eval_put_ne (by decide)]; exact ch3.move hg (fun r e => by cases e) (fun k hk => labN_lt hk))⟩
            | 9, _ =>
              have h1 := getD_tf hi1
              rw [g9] at h1
              cases h1
            | 10, _ =>
              have h1 := getD_tf hi1
              rw [g10] at h1
              cases h1
            | 11, _ =>
              have hbf : listed.getD 8 false = true := by
                have h2 := haf
                cases ho
                exact h2 ⟨8, .data⟩ (by simp) rfl
              have hR0 := ch2.e hbf (getD_tf hi1)
              obtain ⟨A1, c1, hv⟩ := Kd.R_slice hR0
              refine wpOp_of_step (o := { dst := _, op := _, type := _, pos := _, after := _, guard := _ }) rfl ?_
              refine Kd.R_append_rows_step kP (w0 := W6.drew) W6.heap.size (by simp [Region.wanted]) (.tmp 47) (.tmp 49) 23 50 (.agg #[.int .i64 0, .int .i64 0]) 16 rfl (by kernel_rfl) info_step rfl (by decide) (by decide) (a.eval (.tmp 47)) [] r.pl.2.2.1 Bs r.pl.2.2.1.length ds (fun k => labN lab w.heap.size 2 k = 2) (fun k => labN lab w.heap.size 2 k = 2 ∧ some k ≠ (a.eval (.tmp 47)).ownBlock) rfl ((eval_frame hfr 49 (by decide)).trans e49) (R_labN hR0 2) (Kd.C_below (Kd.C_below hC2 (below_drew (Below.refl _ _))) hb) (fun _ _ h => h) (fun k hk => hk) (fun k hk => labN_ge hk) hb hb.size (by have := HLE.out; simp only [List.length_nil]; omega) ?_
              intro v1 w1 hR hb1 hg hown
              rw [List.nil_append] at hR
              have hrow : ∀ c', c' ≠ 2 → ∀ r, (a.eval (.tmp 47)).ownBlock = some r → lab r ≠ c' := fun c' hc r e h => hc (h.symm.trans (hR0.1 r e))
              refine ⟨by simpa using hls, ⟨by rw [getD_set_ne (by decide)]; exact g1, by rw [getD_set_ne (by decide)]; exact g2, by rw [getD_set_ne (by decide)]; exact g5, by rw [getD_set_ne (by decide)]; exact g6, by rw [getD_set_ne (by decide)]; exact g9, by rw [getD_set_ne (by decide)]; exact g10, by rw [getD_set_ne (by decide)]; exact g13, by rw [getD_set_ne (by decide)]; exact g14⟩, hde, by rw [put_size]; exact hts, put_frame (by decide) hfr, hb1, labN lab w.heap.size 2, (by rw [getD_set_ne (by decide), getD_set_ne (by decide), eval_put_ne (by decide), eval_put_ne (by decide)]; exact ch0.move hg (hrow 0 (by decide)) (fun k hk => labN_lt hk)), (by rw [getD_set_ne (by decide), getD_set_ne (by decide), eval_put_ne (by decide), eval_put_ne (by decide)]; exact ch1.move hg (hrow 1 (by decide)) (fun k hk => labN_lt hk)), ⟨fun _ h => (by rw [getD_set_eq (by rw [hls]; decide)] at h; cases h), fun _ => (by rw [eval_put_eq (by rw [hts, hsz]; decide)]; exact hR)⟩, (by rw [getD_set_ne (by decide), getD_set_ne (by decide), eval_put_ne (by decide), eval_put_ne (by decide)]; exact ch3.move hg (hrow 3 (by decide)) (fun k hk => labN_lt hk))⟩
            | 12, _ =>
              refine wpOp_of_step (o := { dst := _, op := _, type := _, pos := _, after := _, guard := _ }) rfl ?_
              refine Kd.R_lit_step kP (w0 := W6.drew) W6.heap.size 74 (by simp [Region.wanted]) (N := 51) rfl (xs := []) (inner := []) (ok := fun k => labN lab w.heap.size 3 k = 3) (okp := fun k => labN lab w.heap.size 3 k = 3) ?hrun (Reps.none _ _) (fun _ hk => hk) (labN_ge (Nat.le_refl _)) hb hb.size (by simp) ?_
              case hrun => first | (go_simp; done) | (go_simp; rfl)
              intro v1 w1 hR hb1 hg hown
              refine ⟨by simpa using hls, ⟨by rw [getD_set_ne (by decide)]; exact g1, by rw [getD_set_ne (by decide)]; exact g2, by rw [getD_set_ne (by decide)]; exact g5, by rw [getD_set_ne (by decide)]; exact g6, by rw [getD_set_ne (by decide)]; exact g9, by rw [getD_set_ne (by decide)]; exact g10, by rw [getD_set_ne (by decide)]; exact g13, by rw [getD_set_ne (by decide)]; exact g14⟩, hde, by rw [put_size]; exact hts, put_frame (by decide) hfr, hb1, labN lab w.heap.size 3, (by rw [getD_set_ne (by decide), getD_set_ne (by decide), eval_put_ne (by decide), eval_put_ne (by decide)]; exact ch0.move hg (fun r e => by cases e) (fun k hk => labN_lt hk)), (by rw [getD_set_ne (by decide), getD_set_ne (by decide), eval_put_ne (by decide), eval_put_ne (by decide)]; exact ch1.move hg (fun r e => by cases e) (fun k hk => labN_lt hk)), (by rw [getD_set_ne (by decide), getD_set_ne (by decide), eval_put_ne (by decide), eval_put_ne (by decide)]; exact ch2.move hg (fun r e => by cases e) (fun k hk => labN_lt hk)), ⟨fun _ _ => (by rw [eval_put_eq (by rw [hts, hsz]; decide)]; exact hR), fun h => (by rw [eval_put_ne (by decide)]; rw [getD_set_ne (by decide)] at h; exact (ch3.move hg (fun r e => by cases e) (fun k hk => labN_lt hk)).f h)⟩⟩
            | 13, _ =>
              have h1 := getD_tf hi1
              rw [g13] at h1
              cases h1
            | 14, _ =>
              have h1 := getD_tf hi1
              rw [g14] at h1
              cases h1
            | 15, _ =>
              have hbf : listed.getD 12 false = true := by
                have h2 := haf
                cases ho
                exact h2 ⟨12, .data⟩ (by simp) rfl
              have hR0 := ch3.e hbf (getD_tf hi1)
              obtain ⟨A1, c1, hv⟩ := Kd.R_slice hR0
              refine wpOp_of_step (o := { dst := _, op := _, type := _, pos := _, after := _, guard := _ }) rfl ?_
              refine Kd.R_append_rows_step kP (w0 := W6.drew) W6.heap.size (by simp [Region.wanted]) (.tmp 51) (.tmp 53) 24 74 (.agg #[.int .i64 0, .int .i64 0]) 16 rfl (by kernel_rfl) info_edge rfl (by decide) (by decide) (a.eval (.tmp 51)) [] r.pl.2.2.2 Bb r.pl.2.2.2.length db (fun k => labN lab w.heap.size 3 k = 3) (fun k => labN lab w.heap.size 3 k = 3 ∧ some k ≠ (a.eval (.tmp 51)).ownBlock) rfl ((eval_frame hfr 53 (by decide)).trans e53) (R_labN hR0 3) (Kd.C_below (Kd.C_below hC3 (below_drew (Below.refl _ _))) hb) (fun _ _ h => h) (fun k hk => hk) (fun k hk => labN_ge hk) hb hb.size (by have := HLE.out; simp only [List.length_nil]; omega) ?_
              intro v1 w1 hR hb1 hg hown
              rw [List.nil_append] at hR
              have hrow : ∀ c', c' ≠ 3 → ∀ r, (a.eval (.tmp 51)).ownBlock = some r → lab r ≠ c' := fun c' hc r e h => hc (h.symm.trans (hR0.1 r e))
              refine ⟨by simpa using hls, ⟨by rw [getD_set_ne (by decide)]; exact g1, by rw [getD_set_ne (by decide)]; exact g2, by rw [getD_set_ne (by decide)]; exact g5, by rw [getD_set_ne (by decide)]; exact g6, by rw [getD_set_ne (by decide)]; exact g9, by rw [getD_set_ne (by decide)]; exact g10, by rw [getD_set_ne (by decide)]; exact g13, by rw [getD_set_ne (by decide)]; exact g14⟩, hde, by rw [put_size]; exact hts, put_frame (by decide) hfr, hb1, labN lab w.heap.size 3, (by rw [getD_set_ne (by decide), getD_set_ne (by decide), eval_put_ne (by decide), eval_put_ne (by decide)]; exact ch0.move hg (hrow 0 (by decide)) (fun k hk => labN_lt hk)), (by rw [getD_set_ne (by decide), getD_set_ne (by decide), eval_put_ne (by decide), eval_put_ne (by decide)]; exact ch1.move hg (hrow 1 (by decide)) (fun k hk => labN_lt hk)), (by rw [getD_set_ne (by decide), getD_set_ne (by decide), eval_put_ne (by decide), eval_put_ne (by decide)]; exact ch2.move hg (hrow 2 (by decide)) (fun k hk => labN_lt hk)), ⟨fun _ h => (by rw [getD_set_eq (by rw [hls]; decide)] at h; cases h), fun _ => (by rw [eval_put_eq (by rw [hts, hsz]; decide)]; exact hR)⟩⟩
        case rest =>
          obtain ⟨V', HGX, HPX, HBX⟩ := hcut
          obtain ⟨A2f, c2f, A2t, c2t, A2s, c2s, A2b, c2b, rfl, -⟩ := HPX.out.c.opened'
          have HGT := Aside0.mk (blk_below HG.out HBX.out)
          have HVT := Aside0.mk (HV.out.below HBX.out)
          have K := Aside0.mk (Take_T ⟨⟨.slice Azf t.pl.1.length czf, .slice Azt t.pl.2.1.length czt, .slice Azs t.pl.2.2.1.length czs, .slice Azb t.pl.2.2.2.length czb⟩, .slice Azo t.op.length czo, .slice Azd t.dn.length czd⟩ t ⟨.slice A2f r.pl.1.length c2f, .slice A2t r.pl.2.1.length c2t, .slice A2s r.pl.2.2.1.length c2s, .slice A2b r.pl.2.2.2.length c2b⟩ r wc (HT.out.below (below_step HBW.out HBX.out)) HVT.out.c HPX.out.c HM.out HBD.out)
          rw [HSV.out, HTK.out] at K
          unfold rrv at K
          dsimp only at K
          dsimp only at HGX
          have HO2 : Aside0 (WOk wc 50 2 (w3.heap.size + 2) wc.heap.size (.slice A2s r.pl.2.2.1.length c2s) r.pl.2.2.1.length) := ⟨WOk.of_R HPX.out.2.2.1 (Nat.le_trans HSZ.out (Nat.le_add_right _ _))⟩
          have HOo : Aside0 (WOk wc 3 1 (w3.heap.size + 2) wc.heap.size (.slice Azo t.op.length czo) t.op.length) := ⟨((WOk.of_R HV.out.2.1 (Nat.le_refl _)).below HBX.out).wide (Nat.le_refl _) HBX.out.size⟩
          have HOd : Aside0 (WOk wc 3 1 (w3.heap.size + 2) wc.heap.size (.slice Azd t.dn.length czd) t.dn.length) := ⟨((WOk.of_R HV.out.2.2 (Nat.le_refl _)).below HBX.out).wide (Nat.le_refl _) HBX.out.size⟩
          have HOs : Aside0 (WOk wc 50 2 (w3.heap.size + 2) wc.heap.size (.slice Azs t.pl.2.2.1.length czs) t.pl.2.2.1.length) := ⟨((WOk.of_R HV.out.1.2.2.1 (Nat.le_refl _)).below HBX.out).wide (Nat.le_refl _) HBX.out.size⟩
          have HLR := Aside0.mk (okPlan_le HM.out)
          have HLT := Aside0.mk (okPlan_le HBD.out.p)
          obtain ⟨wr0, rfl⟩ : ∃ W, W = wr := ⟨_, rfl⟩
          obtain ⟨ko, rfl⟩ : ∃ k, k = gk := ⟨_, rfl⟩
          have hg0 := (blk_cell HGT.out) 0
          have hg1 := (blk_cell HGT.out) 1
          have hg2 := (blk_cell HGT.out) 2
          have hg3 := (blk_cell HGT.out) 3
          have hg4 := (blk_cell HGT.out) 4
          have hg5 := (blk_cell HGT.out) 5
          have hg6 := (blk_cell HGT.out) 6
          have hg7 := (blk_cell HGT.out) 7
          have hx0 := (blk_cell HGX.out) 0
          have hx1 := (blk_cell HGX.out) 1
          have hx2 := (blk_cell HGX.out) 2
          have hx3 := (blk_cell HGX.out) 3
          have hx4 := (blk_cell HGX.out) 4
          have hx5 := (blk_cell HGX.out) 5
          clear HX6 HY6 HU6 HZ6 HB6
          go_wp2_with (fail)
          refine K.out.mono ?_
          rintro e w5 ⟨V5, rfl, hr, hb⟩
          obtain ⟨Aaf, caf, Aat, cat, Aas, cas, Aab, cab, Aao, cao, Aad, cad, rfl⟩ := hr.opened
          have hb7 := below_alloc (Below.refl w5.heap.size w5) (.cells #[.int .i64 t'.num, .int .i64 t'.ph, .slice Aaf t'.pl.1.length caf, .slice Aat t'.pl.2.1.length cat, .slice Aas t'.pl.2.2.1.length cas, .slice Aab t'.pl.2.2.2.length cab, .slice Aao t'.op.length cao, .slice Aad t'.dn.length cad] 34)
          have HG7 := Aside0.mk (blk_below (blk_below HGT.out hb) hb7)
          have HX7 := Aside0.mk (blk_below (blk_below HGX.out hb) hb7)
          have HN7 := Aside0.mk (heap_last w5 (.cells #[.int .i64 t'.num, .int .i64 t'.ph, .slice Aaf t'.pl.1.length caf, .slice Aat t'.pl.2.1.length cat, .slice Aas t'.pl.2.2.1.length cas, .slice Aab t'.pl.2.2.2.length cab, .slice Aao t'.op.length cao, .slice Aad t'.dn.length cad] 34))
          have HR7 := Aside0.mk (hr.below hb7)
          have HB7 := Aside0.mk (Below.trans hb (hb7.mono hb.size))
          have HP2 := Aside0.mk ((HO2.out.below hb).below hb7)
          have HPo := Aside0.mk ((HOo.out.below hb).below hb7)
          have HPd := Aside0.mk ((HOd.out.below hb).below hb7)
          have HPs := Aside0.mk ((HOs.out.below hb).below hb7)
          have HW5 : Aside0 (wc.heap.size ≤ w5.heap.size) := ⟨hb.size⟩
          obtain ⟨W7, hW7⟩ : ∃ W, w5.alloc (.cells #[.int .i64 t'.num, .int .i64 t'.ph, .slice Aaf t'.pl.1.length caf, .slice Aat t'.pl.2.1.length cat, .slice Aas t'.pl.2.2.1.length cas, .slice Aab t'.pl.2.2.2.length cab, .slice Aao t'.op.length cao, .slice Aad t'.dn.length cad] 34) = W := ⟨_, rfl⟩
          rw [hW7] at HG7 HX7 HN7 HR7 HB7 HP2 HPo HPd HPs
          clear K hr hb hb7 hg0 hg1 hg2 hg3 hg4 hg5 hg6 hg7 hx0 hx1 hx2 hx3 hx4 hx5 HO2 HOo HOd HOs HGX HPX
          unfold stv
          dsimp only
          have hx4 := (blk_cell HX7.out) 4
          have HWC : Aside0 (w3.heap.size + 2 ≤ wc.heap.size) := ⟨Nat.le_trans HSZ.out HBX.out.size⟩
          go_wp2_with (fail)
          clear hW7 hx4
          go_loopg [69] (r.pl.2.2.1.length) (fun kq v69 w' => ∃ i : Nat, v69 = .int .i64 (i : Int) ∧ Aside0 (i + kq = r.pl.2.2.1.length) ∧ Aside0 (Below (w3.heap.size + 2) W7 w') ∧ Aside0 (∀ k, wc.heap.size ≤ k → w'.heap[k]? = W7.heap[k]?) ∧ Aside0 (w'.heap[wr0.heap.size]? = some (.cells #[.int .i64 r.kind, .int .i64 r.step, .slice A2f r.pl.1.length c2f, .slice A2t r.pl.2.1.length c2t, .slice A2s r.pl.2.2.1.length c2s, .slice A2b r.pl.2.2.2.length c2b] 39 (0, 0))) ∧ Aside0 (WOk w' 50 2 (w3.heap.size + 2) wc.heap.size (.slice A2s r.pl.2.2.1.length c2s) (r.pl.2.2.1.length)) ∧ Aside0 (WOk w' 3 1 (w3.heap.size + 2) wc.heap.size (.slice Azo t.op.length czo) (t.op.length)) ∧ Aside0 (WOk w' 3 1 (w3.heap.size + 2) wc.heap.size (.slice Azd t.dn.length czd) (t.dn.length)) ∧ Aside0 (WOk w' 50 2 (w3.heap.size + 2) wc.heap.size (.slice Azs t.pl.2.2.1.length czs) (t.pl.2.2.1.length)))
          case atStart => exact ⟨0, rfl, ⟨by omega⟩, ⟨Below.refl _ _⟩, ⟨fun _ _ => rfl⟩, HX7, HP2, HPo, HPd, HPs⟩
          case round =>
            clear HP2 HPo HPd HPs
            obtain ⟨i2, rfl, HJ2, HB2, HH2, HX2, HP2, HPo, HPd, HPs⟩ := hrel
            have HGT2 := Aside0.mk ((HB2.out.block _ (Nat.lt_succ_self _)).trans HG7.out)
            by_cases c2 : i2 < r.pl.2.2.1.length
            · have e2 : decide (i2 < r.pl.2.2.1.length) = true := decide_eq_true c2
              have HI2 := Aside0.mk c2
              have HE6 : Aside0 (wrap64 ((i2 : Int) + 1) = ((i2 + 1 : Nat) : Int)) := ⟨by have := HLR.out; have := HLT.out; have := HBD.out.o; have := HBD.out.d; unfold wrap64; omega⟩
              obtain ⟨g, c7, u7, ev, hx, hfz, hlo, hhi, cs7, hty⟩ := HP2.out.cell i2 1 c2 (by decide)
              cases ev
              have hb4 := (blk_cell HX2.out) 4
              have HLO := Aside0.mk hlo
              have HHI := Aside0.mk hhi
              have HNE : Aside0 (wr0.heap.size ≠ g) := ⟨typ_ne hty HX2.out (by decide)⟩
              clear hlo hhi hty
              go_wp2_with (fail)
              go_roundg (gk - 1)
              case measure => have := HJ2.out; have := HI2.out; omega
              case rel => exact ⟨i2 + 1, (by first | exact congrArg _ HE6.out | rfl), ⟨by have := HJ2.out; have := HI2.out; omega⟩, ⟨HB2.out.setCell (p := ⟨g, i2 * 2 + 1, none⟩) HLO.out _⟩, ⟨fun k hk => (Below.heap_setCell _ ⟨g, i2 * 2 + 1, none⟩ _ k (by have := HHI.out; show k ≠ g; omega)).trans (HH2.out k hk)⟩, ⟨(Below.heap_setCell _ ⟨g, i2 * 2 + 1, none⟩ _ _ HNE.out).trans HX2.out⟩, ⟨HP2.out.set _ _⟩, ⟨HPo.out.set _ _⟩, ⟨HPd.out.set _ _⟩, ⟨HPs.out.set _ _⟩⟩
            · have e2 : decide (i2 < r.pl.2.2.1.length) = false := decide_eq_false c2
              clear c2
              have hb4 := (blk_cell HGT2.out) 6
              go_wp2_with (fail)
              clear hb4 e2
              go_loopg [82] (t.op.length) (fun kq v82 w' => ∃ i : Nat, v82 = .int .i64 (i : Int) ∧ Aside0 (i + kq = t.op.length) ∧ Aside0 (Below (w3.heap.size + 2) W7 w') ∧ Aside0 (∀ k, wc.heap.size ≤ k → w'.heap[k]? = W7.heap[k]?) ∧ Aside0 (w'.heap[wr0.heap.size]? = some (.cells #[.int .i64 r.kind, .int .i64 r.step, .slice A2f r.pl.1.length c2f, .slice A2t r.pl.2.1.length c2t, .slice A2s r.pl.2.2.1.length c2s, .slice A2b r.pl.2.2.2.length c2b] 39 (0, 0))) ∧ Aside0 (WOk w' 50 2 (w3.heap.size + 2) wc.heap.size (.slice A2s r.pl.2.2.1.length c2s) (r.pl.2.2.1.length)) ∧ Aside0 (WOk w' 3 1 (w3.heap.size + 2) wc.heap.size (.slice Azo t.op.length czo) (t.op.length)) ∧ Aside0 (WOk w' 3 1 (w3.heap.size + 2) wc.heap.size (.slice Azd t.dn.length czd) (t.dn.length)) ∧ Aside0 (WOk w' 50 2 (w3.heap.size + 2) wc.heap.size (.slice Azs t.pl.2.2.1.length czs) (t.pl.2.2.1.length)))
              case atStart => exact ⟨0, rfl, ⟨by omega⟩, HB2, HH2, HX2, HP2, HPo, HPd, HPs⟩
              case round =>
                clear HJ2 HB2 HH2 HX2 HP2 HPo HPd HPs HGT2
                obtain ⟨i2, rfl, HJ2, HB2, HH2, HX2, HP2, HPo, HPd, HPs⟩ := hrel
                have HGT2 := Aside0.mk ((HB2.out.block _ (Nat.lt_succ_self _)).trans HG7.out)
                by_cases c2 : i2 < t.op.length
                · have e2 : decide (i2 < t.op.length) = true := decide_eq_true c2
                  have HI2 := Aside0.mk c2
                  have HE6 : Aside0 (wrap64 ((i2 : Int) + 1) = ((i2 + 1 : Nat) : Int)) := ⟨by have := HLR.out; have := HLT.out; have := HBD.out.o; have := HBD.out.d; unfold wrap64; omega⟩
                  obtain ⟨g, c7, u7, ev, hx, hfz, hlo, hhi, cs7, hty⟩ := HPo.out.cell i2 0 c2 (by decide)
                  cases ev
                  have hb4 := (blk_cell HGT2.out) 6
                  have HLO := Aside0.mk hlo
                  have HHI := Aside0.mk hhi
                  have HNE : Aside0 (wr0.heap.size ≠ g) := ⟨typ_ne hty HX2.out (by decide)⟩
                  simp only [Nat.mul_one, Nat.add_zero] at hx hfz
                  clear hlo hhi hty
                  go_wp2_with (fail)
                  go_roundg (gk - 1)
                  case measure => have := HJ2.out; have := HI2.out; omega
                  case rel => exact ⟨i2 + 1, (by first | exact congrArg _ HE6.out | rfl), ⟨by have := HJ2.out; have := HI2.out; omega⟩, ⟨HB2.out.setCell (p := ⟨g, i2, none⟩) HLO.out _⟩, ⟨fun k hk => (Below.heap_setCell _ ⟨g, i2, none⟩ _ k (by have := HHI.out; show k ≠ g; omega)).trans (HH2.out k hk)⟩, ⟨(Below.heap_setCell _ ⟨g, i2, none⟩ _ _ HNE.out).trans HX2.out⟩, ⟨HP2.out.set _ _⟩, ⟨HPo.out.set _ _⟩, ⟨HPd.out.set _ _⟩, ⟨HPs.out.set _ _⟩⟩
                · have e2 : decide (i2 < t.op.length) = false := decide_eq_false c2
                  clear c2
                  have hb4 := (blk_cell HGT2.out) 7
                  go_wp2_with (fail)
                  clear hb4 e2
                  go_loopg [93] (t.dn.length) (fun kq v93 w' => ∃ i : Nat, v93 = .int .i64 (i : Int) ∧ Aside0 (i + kq = t.dn.length) ∧ Aside0 (Below (w3.heap.size + 2) W7 w') ∧ Aside0 (∀ k, wc.heap.size ≤ k → w'.heap[k]? = W7.heap[k]?) ∧ Aside0 (w'.heap[wr0.heap.size]? = some (.cells #[.int .i64 r.kind, .int .i64 r.step, .slice A2f r.pl.1.length c2f, .slice A2t r.pl.2.1.length c2t, .slice A2s r.pl.2.2.1.length c2s, .slice A2b r.pl.2.2.2.length c2b] 39 (0, 0))) ∧ Aside0 (WOk w' 50 2 (w3.heap.size + 2) wc.heap.size (.slice A2s r.pl.2.2.1.length c2s) (r.pl.2.2.1.length)) ∧ Aside0 (WOk w' 3 1 (w3.heap.size + 2) wc.heap.size (.slice Azo t.op.length czo) (t.op.length)) ∧ Aside0 (WOk w' 3 1 (w3.heap.size + 2) wc.heap.size (.slice Azd t.dn.length czd) (t.dn.length)) ∧ Aside0 (WOk w' 50 2 (w3.heap.size + 2) wc.heap.size (.slice Azs t.pl.2.2.1.length czs) (t.pl.2.2.1.length)))
                  case atStart => exact ⟨0, rfl, ⟨by omega⟩, HB2, HH2, HX2, HP2, HPo, HPd, HPs⟩
                  case round =>
                    clear HJ2 HB2 HH2 HX2 HP2 HPo HPd HPs HGT2
                    obtain ⟨i2, rfl, HJ2, HB2, HH2, HX2, HP2, HPo, HPd, HPs⟩ := hrel
                    have HGT2 := Aside0.mk ((HB2.out.block _ (Nat.lt_succ_self _)).trans HG7.out)
                    by_cases c2 : i2 < t.dn.length
                    · have e2 : decide (i2 < t.dn.length) = true := decide_eq_true c2
                      have HI2 := Aside0.mk c2
                      have HE6 : Aside0 (wrap64 ((i2 : Int) + 1) = ((i2 + 1 : Nat) : Int)) := ⟨by have := HLR.out; have := HLT.out; have := HBD.out.o; have := HBD.out.d; unfold wrap64; omega⟩
                      obtain ⟨g, c7, u7, ev, hx, hfz, hlo, hhi, cs7, hty⟩ := HPd.out.cell i2 0 c2 (by decide)
                      cases ev
                      have hb4 := (blk_cell HGT2.out) 7
                      have HLO := Aside0.mk hlo
                      have HHI := Aside0.mk hhi
                      have HNE : Aside0 (wr0.heap.size ≠ g) := ⟨typ_ne hty HX2.out (by decide)⟩
                      simp only [Nat.mul_one, Nat.add_zero] at hx hfz
                      clear hlo hhi hty
                      go_wp2_with (fail)
                      go_roundg (gk - 1)
                      case measure => have := HJ2.out; have := HI2.out; omega
                      case rel => exact ⟨i2 + 1, (by first | exact congrArg _ HE6.out | rfl), ⟨by have := HJ2.out; have := HI2.out; omega⟩, ⟨HB2.out.setCell (p := ⟨g, i2, none⟩) HLO.out _⟩, ⟨fun k hk => (Below.heap_setCell _ ⟨g, i2, none⟩ _ k (by have := HHI.out; show k ≠ g; omega)).trans (HH2.out k hk)⟩, ⟨(Below.heap_setCell _ ⟨g, i2, none⟩ _ _ HNE.out).trans HX2.out⟩, ⟨HP2.out.set _ _⟩, ⟨HPo.out.set _ _⟩, ⟨HPd.out.set _ _⟩, ⟨HPs.out.set _ _⟩⟩
                    · have e2 : decide (i2 < t.dn.length) = false := decide_eq_false c2
                      clear c2
                      have hb4 := (blk_cell HGT2.out) 4
                      go_wp2_with (fail)
                      clear hb4 e2
                      go_loopg [105] (t.pl.2.2.1.length) (fun kq v105 w' => ∃ i : Nat, v105 = .int .i64 (i : Int) ∧ Aside0 (i + kq = t.pl.2.2.1.length) ∧ Aside0 (Below (w3.heap.size + 2) W7 w') ∧ Aside0 (∀ k, wc.heap.size ≤ k → w'.heap[k]? = W7.heap[k]?) ∧ Aside0 (w'.heap[wr0.heap.size]? = some (.cells #[.int .i64 r.kind, .int .i64 r.step, .slice A2f r.pl.1.length c2f, .slice A2t r.pl.2.1.length c2t, .slice A2s r.pl.2.2.1.length c2s, .slice A2b r.pl.2.2.2.length c2b] 39 (0, 0))) ∧ Aside0 (WOk w' 50 2 (w3.heap.size + 2) wc.heap.size (.slice A2s r.pl.2.2.1.length c2s) (r.pl.2.2.1.length)) ∧ Aside0 (WOk w' 3 1 (w3.heap.size + 2) wc.heap.size (.slice Azo t.op.length czo) (t.op.length)) ∧ Aside0 (WOk w' 3 1 (w3.heap.size + 2) wc.heap.size (.slice Azd t.dn.length czd) (t.dn.length)) ∧ Aside0 (WOk w' 50 2 (w3.heap.size + 2) wc.heap.size (.slice Azs t.pl.2.2.1.length czs) (t.pl.2.2.1.length)))
                      case atStart => exact ⟨0, rfl, ⟨by omega⟩, HB2, HH2, HX2, HP2, HPo, HPd, HPs⟩
                      case round =>
                        clear HJ2 HB2 HH2 HX2 HP2 HPo HPd HPs HGT2
                        obtain ⟨i2, rfl, HJ2, HB2, HH2, HX2, HP2, HPo, HPd, HPs⟩ := hrel
                        have HGT2 := Aside0.mk ((HB2.out.block _ (Nat.lt_succ_self _)).trans HG7.out)
                        by_cases c2 : i2 < t.pl.2.2.1.length
                        · have e2 : decide (i2 < t.pl.2.2.1.length) = true := decide_eq_true c2
                          have HI2 := Aside0.mk c2
                          have HE6 : Aside0 (wrap64 ((i2 : Int) + 1) = ((i2 + 1 : Nat) : Int)) := ⟨by have := HLR.out; have := HLT.out; have := HBD.out.o; have := HBD.out.d; unfold wrap64; omega⟩
                          obtain ⟨g, c7, u7, ev, hx, hfz, hlo, hhi, cs7, hty⟩ := HPs.out.cell i2 1 c2 (by decide)
                          cases ev
                          have hb4 := (blk_cell HGT2.out) 4
                          have HLO := Aside0.mk hlo
                          have HHI := Aside0.mk hhi
                          have HNE : Aside0 (wr0.heap.size ≠ g) := ⟨typ_ne hty HX2.out (by decide)⟩
                          clear hlo hhi hty
                          go_wp2_with (fail)
                          go_roundg (gk - 1)
                          case measure => have := HJ2.out; have := HI2.out; omega
                          case rel => exact ⟨i2 + 1, (by first | exact congrArg _ HE6.out | rfl), ⟨by have := HJ2.out; have := HI2.out; omega⟩, ⟨HB2.out.setCell (p := ⟨g, i2 * 2 + 1, none⟩) HLO.out _⟩, ⟨fun k hk => (Below.heap_setCell _ ⟨g, i2 * 2 + 1, none⟩ _ k (by have := HHI.out; show k ≠ g; omega)).trans (HH2.out k hk)⟩, ⟨(Below.heap_setCell _ ⟨g, i2 * 2 + 1, none⟩ _ _ HNE.out).trans HX2.out⟩, ⟨HP2.out.set _ _⟩, ⟨HPo.out.set _ _⟩, ⟨HPd.out.set _ _⟩, ⟨HPs.out.set _ _⟩⟩
                        · have e2 : decide (i2 < t.pl.2.2.1.length) = false := decide_eq_false c2
                          clear c2
                          have HN8 := Aside0.mk ((HH2.out w5.heap.size HW5.out).trans HN7.out)
                          have hn0 := (blk_cell HN8.out) 0
                          have hn1 := (blk_cell HN8.out) 1
                          have hn2 := (blk_cell HN8.out) 2
                          have hn3 := (blk_cell HN8.out) 3
                          have hn4 := (blk_cell HN8.out) 4
                          have hn5 := (blk_cell HN8.out) 5
                          have hn6 := (blk_cell HN8.out) 6
                          have hn7 := (blk_cell HN8.out) 7
                          have hm0 := (blk_cell HGT2.out) 0
                          have hm1 := (blk_cell HGT2.out) 1
                          have hm2 := (blk_cell HGT2.out) 2
                          have hm3 := (blk_cell HGT2.out) 3
                          have hm4 := (blk_cell HGT2.out) 4
                          have hm5 := (blk_cell HGT2.out) 5
                          have hm6 := (blk_cell HGT2.out) 6
                          have hm7 := (blk_cell HGT2.out) 7
                          have hmf0 := free_of HGT2.out 0
                          have hmf1 := free_of HGT2.out 1
                          have hmf2 := free_of HGT2.out 2
                          have hmf3 := free_of HGT2.out 3
                          have hmf4 := free_of HGT2.out 4
                          have hmf5 := free_of HGT2.out 5
                          have hmf6 := free_of HGT2.out 6
                          have hmf7 := free_of HGT2.out 7
                          go_wp2_with (fail)
                          obtain ⟨wx, hwx⟩ : ∃ W, sets (w3.heap.size + 1) wr [(0, .int .i64 t'.num), (1, .int .i64 t'.ph), (2, .slice Aaf t'.pl.1.length caf), (3, .slice Aat t'.pl.2.1.length cat), (4, .slice Aas t'.pl.2.2.1.length cas), (5, .slice Aab t'.pl.2.2.2.length cab), (6, .slice Aao t'.op.length cao), (7, .slice Aad t'.dn.length cad)] = W := ⟨_, rfl⟩
                          have hgx := box8 HGT2.out (.int .i64 t'.num) (.int .i64 t'.ph) (.slice Aaf t'.pl.1.length caf) (.slice Aat t'.pl.2.1.length cat) (.slice Aas t'.pl.2.2.1.length cas) (.slice Aab t'.pl.2.2.2.length cab) (.slice Aao t'.op.length cao) (.slice Aad t'.dn.length cad)
                          have hrk := (StR_keep HR7.out (fun k hk _ => HH2.out k hk)).lower (base' := w3.heap.size + 2) HWC.out
                          have hvx := StR_sets (T := 34) (by decide) [(0, .int .i64 t'.num), (1, .int .i64 t'.ph), (2, .slice Aaf t'.pl.1.length caf), (3, .slice Aat t'.pl.2.1.length cat), (4, .slice Aas t'.pl.2.2.1.length cas), (5, .slice Aab t'.pl.2.2.2.length cab), (6, .slice Aao t'.op.length cao), (7, .slice Aad t'.dn.length cad)] _ _ HGT2.out hrk
                          have hbb := (HB.out.trans (HBX.out.mono (Nat.le_trans (Nat.le_succ _) HSZ.out))).trans ((HB7.out.mono (Nat.le_trans (Nat.le_succ _) HWC.out)).trans (HB2.out.mono (Nat.le_succ _)))
                          have hbx := Below_sets (Nat.le_refl _) [(0, .int .i64 t'.num), (1, .int .i64 t'.ph), (2, .slice Aaf t'.pl.1.length caf), (3, .slice Aat t'.pl.2.1.length cat), (4, .slice Aas t'.pl.2.2.1.length cas), (5, .slice Aab t'.pl.2.2.2.length cab), (6, .slice Aao t'.op.length cao), (7, .slice Aad t'.dn.length cad)] _ hbb
                          have hsx : w3.heap.size + 2 ≤ wx.heap.size := by have h1 := hbx.size; rw [hwx] at h1; have h2 := HZ4.out; omega
                          rw [hwx] at hgx hvx hbx
                          have hwx' := hwx
                          simp only [sets, List.foldl] at hwx'
                          rw [hwx']
                          clear hwx hwx'
                          have HGY := Aside0.mk hgx
                          have HVY := Aside0.mk hvx
                          have HBY := Aside0.mk hbx
                          have HSY := Aside0.mk hsx
                          clear hgx hvx hbx hsx hrk hbb hn0 hn1 hn2 hn3 hn4 hn5 hn6 hn7 hm0 hm1 hm2 hm3 hm4 hm5 hm6 hm7 hmf0 hmf1 hmf2 hmf3 hmf4 hmf5 hmf6 hmf7
                          go_roundg (ko - 1)
                          case measure => have := HJ.out; have := HI.out; omega
                          case rel => exact ⟨i + 1, ⟨⟨.slice Aaf t'.pl.1.length caf, .slice Aat t'.pl.2.1.length cat, .slice Aas t'.pl.2.2.1.length cas, .slice Aab t'.pl.2.2.2.length cab⟩, .slice Aao t'.op.length cao, .slice Aad t'.dn.length cad⟩, (by first | exact congrArg _ HE5.out | rfl), ⟨by have := HJ.out; have := HI.out; omega⟩, ⟨by rw [HT1.out]; exact HGY.out⟩, ⟨by rw [HT1.out]; exact HVY.out⟩, HBY, HSY⟩
      · have e1 : decide (i < N) = false := decide_eq_false c1
        have hiN : i = N := by have := HJ.out; omega
        rw [hiN, HEND.out] at HG HV
        obtain ⟨Azf, czf, Azt, czt, Azs, czs, Azb, czb, Azo, czo, Azd, czd, rfl⟩ := HV.out.opened
        have hbw := HB4.out.trans (HB.out.mono (Nat.le_succ _))
        have hstv : stv ⟨⟨.slice Azf S.pl.1.length czf, .slice Azt S.pl.2.1.length czt, .slice Azs S.pl.2.2.1.length czs, .slice Azb S.pl.2.2.2.length czb⟩, .slice Azo S.op.length czo, .slice Azd S.dn.length czd⟩ S = #[.int .i64 S.num, .int .i64 S.ph, .slice Azf S.pl.1.length czf, .slice Azt S.pl.2.1.length czt, .slice Azs S.pl.2.2.1.length czs, .slice Azb S.pl.2.2.2.length czb, .slice Azo S.op.length czo, .slice Azd S.dn.length czd] := rfl
        rw [hstv] at HG
        have HSW := Aside0.mk (HS3.out.below hbw)
        have HQ := Aside0.mk HBS.out.p
        have K := Aside0.mk (Plan_T ⟨.slice A1f S.pl.1.length c1f, .slice A1t S.pl.2.1.length c1t, .slice A1s S.pl.2.2.1.length c1s, .slice A1b S.pl.2.2.2.length c1b⟩ S.pl wr HSW.out.c.1)
        unfold Planned plv at K
        rw [HQ.out] at K
        dsimp only at K
        have hs0 := (blk_cell HGS.out) 0
        have hs1 := (blk_cell HGS.out) 1
        have hs2 := (blk_cell HGS.out) 2
        have hs3 := (blk_cell HGS.out) 3
        have hs4 := (blk_cell HGS.out) 4
        have hs5 := (blk_cell HGS.out) 5
        have hs6 := (blk_cell HGS.out) 6
        have hs7 := (blk_cell HGS.out) 7
        clear c1 hiN hbw hstv
        go_wp2_with (fail)
        refine K.out.mono ?_
        rintro e w5 ⟨A5, n5, c5, rfl, hR5, hb⟩
        have hR5' := hR5 trivial
        obtain ⟨hn5, _, _⟩ := Kd.R_reads' hR5'
        subst hn5
        have hb7 := below_alloc (Below.refl w5.heap.size w5) (.cells #[.slice A1f S.pl.1.length c1f, .slice A1t S.pl.2.1.length c1t, .slice A5 S.pl.2.2.1.length c5, .slice A1b S.pl.2.2.2.length c1b] 30)
        have HB7 := Aside0.mk (Below.trans hb (hb7.mono hb.size))
        have HG7 := Aside0.mk (blk_below HG.out HB7.out)
        have HS7 := Aside0.mk (blk_below HGS.out HB7.out)
        have HX7 := Aside0.mk (heap_last w5 (.cells #[.slice A1f S.pl.1.length c1f, .slice A1t S.pl.2.1.length c1t, .slice A5 S.pl.2.2.1.length c5, .slice A1b S.pl.2.2.2.length c1b] 30))
        have HVT := Aside0.mk (HV.out.below HB7.out)
        have HVS := Aside0.mk (HSW.out.below HB7.out)
        have HU := Aside0.mk ((Sl.of_R hR5').below hb7)
        have HBZ := Aside0.mk (below_step HBW.out HB7.out)
        obtain ⟨W7, hW7⟩ : ∃ W, w5.alloc (.cells #[.slice A1f S.pl.1.length c1f, .slice A1t S.pl.2.1.length c1t, .slice A5 S.pl.2.2.1.length c5, .slice A1b S.pl.2.2.2.length c1b] 30) = W := ⟨_, rfl⟩
        rw [hW7] at HB7 HG7 HS7 HX7 HVT HVS HU HBZ
        obtain ⟨_, _, ho1⟩ := Kd.R_reads' HVT.out.2.1
        obtain ⟨_, _, ho2⟩ := Kd.R_reads' HVS.out.2.1
        obtain ⟨_, _, hd1⟩ := Kd.R_reads' HVT.out.2.2
        obtain ⟨_, _, hd2⟩ := Kd.R_reads' HVS.out.2.2
        have K1 := Aside0.mk (Ints_T S.op Azo A1o czo c1o W7 ho1 ho2 (Nat.le_trans HBS.out.o (by decide)))
        have K2 := Aside0.mk (Ints_T S.dn Azd A1d czd c1d W7 hd1 hd2 (Nat.le_trans HBS.out.d (by decide)))
        have K3 := Aside0.mk (LikePlan_T ⟨.slice Azf S.pl.1.length czf, .slice Azt S.pl.2.1.length czt, .slice Azs S.pl.2.2.1.length czs, .slice Azb S.pl.2.2.2.length czb⟩ ⟨.slice A1f S.pl.1.length c1f, .slice A1t S.pl.2.1.length c1t, .slice A5 S.pl.2.2.1.length c5, .slice A1b S.pl.2.2.2.length c1b⟩ S.pl W7 HVT.out.c.1 ⟨HVS.out.c.1.1, HVS.out.c.1.2.1, HU.out, HVS.out.c.1.2.2.2⟩ HQ.out)
        unfold plv at K3
        dsimp only at K3
        clear K hb hb7 hR5 hR5' ho1 ho2 hd1 hd2 hs0 hs1 hs2 hs3 hs4 hs5 hs6 hs7
        have ht0 := (blk_cell HG7.out) 0
        have ht1 := (blk_cell HG7.out) 1
        have ht2 := (blk_cell HG7.out) 2
        have ht3 := (blk_cell HG7.out) 3
        have ht4 := (blk_cell HG7.out) 4
        have ht5 := (blk_cell HG7.out) 5
        have ht6 := (blk_cell HG7.out) 6
        have ht7 := (blk_cell HG7.out) 7
        have hs0 := (blk_cell HS7.out) 0
        have hs1 := (blk_cell HS7.out) 1
        have hs2 := (blk_cell HS7.out) 2
        have hs3 := (blk_cell HS7.out) 3
        have hs4 := (blk_cell HS7.out) 4
        have hs5 := (blk_cell HS7.out) 5
        have hs6 := (blk_cell HS7.out) 6
        have hs7 := (blk_cell HS7.out) 7
        have hy0 := (blk_cell HX7.out) 0
        have hy1 := (blk_cell HX7.out) 1
        have hy2 := (blk_cell HX7.out) 2
        have hy3 := (blk_cell HX7.out) 3
        go_upto_region 38 with (fail)
        clear hW7
        go_wp2_with (fail)
        refine K1.out.mono ?_
        rintro e w6 ⟨rfl, rfl⟩
        clear K1
        go_wp2_with (fail)
        refine K2.out.mono ?_
        rintro e w6 ⟨rfl, rfl⟩
        clear K2
        go_wp2_with (fail)
        refine K3.out.mono ?_
        rintro e w6 ⟨rfl, hb⟩
        have HBF := Aside0.mk (below_step HBZ.out hb)
        clear K3 hb
        go_wp2
        go_ret
        exact ⟨rfl, HBF.out⟩
end Go.Proofs.YtplhihakeodadaaDoor.Sg
