/- lattice: Graph.Closed and right. -/
import Derived.Test.YtplhihakeodadaaDoorLtReady
namespace Go.Proofs.YtplhihakeodadaaDoor.Sg
open Go Go.RowKit Go.Proofs.YtplhihakeodadaaDoorW.PrintWords Go.Proofs.YtplhihakeodadaaDoorW.PrintLast Go.Proofs.YtplhihakeodadaaDoorW.PrintMore
set_option linter.unusedVariables false
set_option linter.unusedSimpArgs false
theorem setb (s i : Nat) (hs : s < 2 ^ 64) : (bits .and .u64 ((s : Int) / 2 ^ i) 1 == 1) = s.testBit i := by
  have e : ((s : Int) / 2 ^ i) = ((s / 2 ^ i : Nat) : Int) := by simp
  have h := (bits_nat .u64 64 (by decide) (fun n h0 h1 => by simp only [IntKind.wrap, IntKind.bits, IntKind.signed]; simp; omega) (s / 2 ^ i) 1 (Nat.lt_of_le_of_lt (Nat.div_le_self _ _) hs) (by decide)).1
  rw [e, show (1 : Int) = ((1 : Nat) : Int) from rfl, h, Nat.and_one_is_mod, Nat.testBit_eq_decide_div_mod_eq]
  rcases Nat.mod_two_eq_zero_or_one (s / 2 ^ i) with c | c <;> rw [c] <;> simp
set_option maxHeartbeats 8000000 in
set_option maxRecDepth 20000 in
theorem DClosed_T (N : Int) (E : List Stp) (A : Option Addr) (c s : Nat) (w : World) (hs : s < 2 ^ 64) (h : Kd.C kP w A E.length E) (hE : E.length ≤ 1000000000) (hl : N ≤ 9223372036854775807) (hl0 : -9223372036854775808 ≤ N) :
    Calls Tryd.prog 74 #[.agg #[.int .i64 N, .slice A E.length c], .int .u64 (s : Int)] w fun e w' => ∃ b, e = .returned (.tuple #[.bool b, .int .i64 (insideE N E s)]) ∧ Below w.heap.size w w' := by
  have hb0 := below_alloc (Below.refl w.heap.size w) (.cells #[.int .i64 N, .slice A E.length c] 62)
  have HX := Aside0.mk (heap_last w (.cells #[.int .i64 N, .slice A E.length c] 62))
  have K := Aside0.mk (Inside_T N E A c s (w.alloc (.cells #[.int .i64 N, .slice A E.length c] 62)) hs (Kd.C_below h hb0) (by omega) (by omega))
  have HB := Aside0.mk hb0
  have HC := Aside0.mk h
  have HS := Aside0.mk hs
  have h0 := (blk_cell HX.out) 0
  have h1 := (blk_cell HX.out) 1
  clear hb0 h hs hE hl hl0
  go_enter Tryd.func74, Tryd.ntmps74
  go_wp2_with (fail)
  refine K.out.mono ?_
  rintro e w1 ⟨rfl, hb⟩
  have HB1 := Aside0.mk (below_step HB.out hb)
  have HX1 := Aside0.mk (blk_below HX.out hb)
  clear K hb h0 h1
  by_cases ci : insideE N E s = 0
  · have hR : rightG N E = true := by
      cases hr : rightG N E with
      | true => rfl
      | false => unfold insideE at ci; rw [hr] at ci; cases ci
    have HZ := Aside0.mk ci
    have h0n : 0 ≤ N := by
      unfold rightG at hR
      simp at hR
      omega
    obtain ⟨n, rfl⟩ := Int.eq_ofNat_of_zero_le h0n
    have HN : Aside0 (n ≤ 64) := ⟨by have := (rightG_in hR).2.1; omega⟩
    have K := Aside0.mk (ahead_T n E A c w1 (Kd.C_below HC.out HB1.out) hR)
    have g0 := (blk_cell HX1.out) 0
    have g1 := (blk_cell HX1.out) 1
    clear hR h0n
    rw [ci]
    clear ci
    go_wp2_with (fail)
    refine K.out.mono ?_
    rintro e w2 ⟨v, rfl, hr, hb⟩
    obtain ⟨A2, c2, rfl⟩ := Kd.R_slice hr
    obtain ⟨_, _, hC⟩ := Kd.R_reads' hr
    have HC2 := Aside0.mk hC
    have HB2 := Aside0.mk (below_step HB1.out hb)
    clear g0 g1 hr hb hC K
    rw [ahd_len]
    go_wp2
    go_loopg [18] n (fun kq v18 w' => ∃ (i : Nat), v18 = .int .i64 (i : Int) ∧ Aside0 (i + kq = n) ∧ w' = w2)
    case atStart => exact ⟨0, rfl, ⟨by omega⟩, rfl⟩
    case round =>
      obtain ⟨i, rfl, HJ, rfl⟩ := hrel
      by_cases cc : i < n
      · have e1 : decide (i < n) = true := decide_eq_true cc
        have HE5 : Aside0 (wrap64 ((i : Int) + 1) = ((i + 1 : Nat) : Int)) := ⟨by have := HN.out; unfold wrap64; omega⟩
        obtain ⟨ad, ea, hx⟩ := at_u64 HC2.out i (by rw [ahd_len]; exact cc)
        cases ea
        rw [ahd_get _ _ _ cc] at hx
        obtain ⟨p, hp⟩ : ∃ p, preds E i = p := ⟨_, rfl⟩
        have hi64 : i < 64 := by have := HN.out; omega
        have hc := setb s i HS.out
        have hn := andNU p s
        have s0 : min i 64 = i := by omega
        obtain ⟨z, hz⟩ : ∃ p', andN p s = p' := ⟨_, rfl⟩
        rw [hz] at hn
        obtain ⟨b, hb⟩ : ∃ b, s.testBit i = b := ⟨_, rfl⟩
        rw [hb] at hc
        have HI := Aside0.mk cc
        rw [hp] at hx
        clear hp hz hb
        cases b with
        | false =>
          go_wp2
          go_roundg (gk - 1)
          case measure => have := HJ.out; have := HI.out; omega
          case rel => exact ⟨i + 1, (by first | exact congrArg _ HE5.out | rfl), ⟨by have := HJ.out; have := HI.out; omega⟩, rfl⟩
        | true =>
          by_cases q : z = 0
          · subst q
            go_wp2
            go_roundg (gk - 1)
            case measure => have := HJ.out; have := HI.out; omega
            case rel => exact ⟨i + 1, (by first | exact congrArg _ HE5.out | rfl), ⟨by have := HJ.out; have := HI.out; omega⟩, rfl⟩
          · have q1 : ((z : Int) != 0) = true := by simp; omega
            go_wp2
            refine bodyPost_ret (v := .tuple #[.bool false, .int .i64 0]) (by simp [results, Tryd.results74, go_sem]) rfl ?_
            exact ⟨false, by rw [HZ.out], HB2.out⟩
      · have e1 : decide (i < n) = false := decide_eq_false cc
        go_wp2
        refine bodyPost_ret (v := .tuple #[.bool true, .int .i64 0]) (by simp [results, Tryd.results74, go_sem]) rfl ?_
        exact ⟨true, by rw [HZ.out], HB2.out⟩
  · have ci' : ((insideE N E s) != 0) = true := by simpa using ci
    clear ci
    go_wp2
    refine bodyPost_ret (v := .tuple #[.bool false, .int .i64 (insideE N E s)]) (by simp [results, Tryd.results74, go_sem]) rfl ?_
    exact ⟨false, rfl, HB1.out⟩
set_option maxHeartbeats 2000000 in
set_option maxRecDepth 20000 in
theorem right_T (N : Int) (E : List Stp) (A : Option Addr) (c s : Nat) (w : World) (hs : s < 2 ^ 64) (h : Kd.C kP w A E.length E) (hE : E.length ≤ 1000000000) (hl : N ≤ 9223372036854775807) (hl0 : -9223372036854775808 ≤ N) :
    Calls Tryd.prog 55 #[.agg #[.int .i64 N, .slice A E.length c], .int .u64 (s : Int)] w fun e w' => e = .returned (.int .i64 (insideE N E s)) ∧ Below w.heap.size w w' := by
  have hb0 := below_alloc (Below.refl w.heap.size w) (.cells #[.int .i64 N, .slice A E.length c] 62)
  have HX := Aside0.mk (heap_last w (.cells #[.int .i64 N, .slice A E.length c] 62))
  have K := Aside0.mk (DClosed_T N E A c s (w.alloc (.cells #[.int .i64 N, .slice A E.length c] 62)) hs (Kd.C_below h hb0) hE hl hl0)
  have HB := Aside0.mk hb0
  have h0 := (blk_cell HX.out) 0
  have h1 := (blk_cell HX.out) 1
  clear hb0 h hs hE hl hl0
  go_enter Tryd.func55, Tryd.ntmps55
  go_wp2_with (fail)
  refine K.out.mono ?_
  rintro e w1 ⟨b, rfl, hb⟩
  have HB1 := Aside0.mk (below_step HB.out hb)
  clear K hb h0 h1
  go_wp2
  go_ret
  exact ⟨rfl, HB1.out⟩
end Go.Proofs.YtplhihakeodadaaDoor.Sg
namespace Go.Proofs.YtplhihakeodadaaDoor.Sg
open Go Go.RowKit Go.Proofs.YtplhihakeodadaaDoorW.PrintWords Go.Proofs.YtplhihakeodadaaDoorW.PrintLast Go.Proofs.YtplhihakeodadaaDoorW.PrintMore
set_option linter.unusedVariables false
set_option linter.unusedSimpArgs false
def Cl (f t : Stp → Int) (E : List Stp) (x : Nat) : Prop := ∀ e ∈ E, x.testBit (f e).toNat = true → x.testBit (t e).toNat = true
def Sub (a b : Nat) : Prop := ∀ i, a.testBit i = true → b.testBit i = true
theorem Sub.refl (a : Nat) : Sub a a := fun _ h => h
/-- The least closed set that has s. -/
structure Least (f t : Stp → Int) (E : List Stp) (s d : Nat) : Prop where
  lt : d < 2 ^ 64
  cl : Cl f t E d
  sub : Sub s d
  least : ∀ x, Cl f t E x → Sub s x → Sub d x
theorem le_or (a b : Nat) : a ≤ a ||| b := Nat.left_le_or
theorem Sub.or {a x i : Nat} (h : Sub a x) (hi : x.testBit i = true) : Sub (a ||| 2 ^ i) x := fun j hj => by
  rw [Nat.testBit_or, Bool.or_eq_true, Nat.testBit_two_pow, decide_eq_true_eq] at hj
  rcases hj with hj | rfl
  · exact h j hj
  · exact hi
theorem Sub.or_left {s a i : Nat} (h : Sub s a) : Sub s (a ||| 2 ^ i) := fun j hj => by
  rw [Nat.testBit_or, h j hj, Bool.true_or]
set_option maxHeartbeats 8000000 in
set_option maxRecDepth 20000 in
theorem spread10_T (n : Nat) (E : List Stp) (A : Option Addr) (c s : Nat) (w : World) (hs : s < 2 ^ 64) (h : Kd.C kP w A E.length E) (hR : rightG n E = true) :
    Calls Tryd.prog 56 #[.agg #[.int .i64 (n : Int), .slice A E.length c], .int .u64 (s : Int), .int .i64 1, .int .i64 0] w fun e w' => ∃ d, e = .returned (.int .u64 ((d : Nat) : Int)) ∧ Least Prod.snd Prod.fst E s d ∧ Below w.heap.size w w' := by
  obtain ⟨hE, ⟨hN0, hN1⟩, hl, hEN⟩ := rightG_in hR
  have HC := Aside0.mk h
  have HE := Aside0.mk hE
  have HL := Aside0.mk hl
  have HS := Aside0.mk hs
  clear h hE hl hs hR hEN hN0 hN1
  go_enter Tryd.func56, Tryd.ntmps56
  go_wp2
  go_loopg [1, 9] (2 ^ 64 + 1) (fun kq v1 v9 w' => ∃ (cur : Nat) (ag : Bool), v1 = .int .u64 (cur : Int) ∧ v9 = .bool ag ∧ Aside0 (ag = true → 2 ^ 64 + 1 - cur ≤ kq) ∧ Aside0 (ag = false → Cl Prod.snd Prod.fst E cur) ∧ Aside0 (cur < 2 ^ 64) ∧ Aside0 (Sub s cur) ∧ Aside0 (∀ x, Cl Prod.snd Prod.fst E x → Sub s x → Sub cur x) ∧ Aside0 (w'.heap[w.heap.size]? = some (.cells #[.int .i64 (n : Int), .slice A E.length c] 62 (0, 0))) ∧ Aside0 (Below w.heap.size w w'))
  case atStart => exact ⟨s, true, rfl, rfl, ⟨fun _ => Nat.sub_le _ _⟩, ⟨fun h => by cases h⟩, HS, ⟨Sub.refl s⟩, ⟨fun x _ h => h⟩, ⟨heap_last _ _⟩, ⟨below_alloc (Below.refl _ _) _⟩⟩
  case round =>
    obtain ⟨cur, ag, rfl, rfl, HK, HCL, HLT, HSB, HMN, HG, HB⟩ := hrel
    have g1 := (blk_cell HG.out) 1
    cases ag with
    | false =>
      go_wp2
      go_ret
      exact ⟨cur, rfl, ⟨HLT.out, HCL.out trivial, HSB.out, HMN.out⟩, HB.out⟩
    | true =>
      go_wp2
      go_loopg [1, 18] E.length (fun kq v1 v18 w' => ∃ (x i : Nat), v1 = .int .u64 (x : Int) ∧ v18 = .int .i64 (i : Int) ∧ Aside0 (i + kq = E.length) ∧ Aside0 (cur ≤ x ∧ x < 2 ^ 64) ∧ Aside0 (Sub s x) ∧ Aside0 (∀ z, Cl Prod.snd Prod.fst E z → Sub s z → Sub x z) ∧ Aside0 (x = cur → ∀ e ∈ E.take i, x.testBit (Prod.snd e).toNat = true → x.testBit (Prod.fst e).toNat = true) ∧ Aside0 (w'.heap[w.heap.size]? = some (.cells #[.int .i64 (n : Int), .slice A E.length c] 62 (0, 0))) ∧ Aside0 (Below w.heap.size w w'))
      case atStart => exact ⟨cur, 0, rfl, rfl, ⟨by omega⟩, ⟨Nat.le_refl _, HLT.out⟩, HSB, HMN, ⟨fun _ e he => by simp at he⟩, HG, HB⟩
      case round =>
        rename_i J0 K0 hJ0 hK0
        clear g1
        obtain ⟨x, i, rfl, rfl, HJ, HX, HSX, HMX, HCX, HG2, HB2⟩ := hrel
        by_cases c1 : i < E.length
        · have e1 : decide (i < E.length) = true := decide_eq_true c1
          have HE5 : Aside0 (wrap64 ((i : Int) + 1) = ((i + 1 : Nat) : Int)) := ⟨by have := HL.out; unfold wrap64; omega⟩
          obtain ⟨ad, ea, hx, hy⟩ := at_stp HC.out i c1
          cases ea
          replace hx := pw_cell_below HB2.out hx
          replace hy := pw_cell_below HB2.out hy
          obtain ⟨e, he⟩ : ∃ e, E.getD i (0, 0) = e := ⟨_, rfl⟩
          have hm : e ∈ E := by rw [← he]; exact getD_mem c1 _
          obtain ⟨⟨p1, p2⟩, ⟨p3, p4⟩⟩ := HE.out e hm
          have htk : E.take (i + 1) = E.take i ++ [e] := by rw [List.take_add_one, ← he]; simp [c1]
          rw [he] at hx hy
          obtain ⟨p, q⟩ := e
          obtain ⟨p, rfl⟩ := Int.eq_ofNat_of_zero_le p1
          obtain ⟨q, rfl⟩ := Int.eq_ofNat_of_zero_le p3
          dsimp only at p2 p4 hx hy
          have hp64 : p < 64 := by omega
          have hq64 : q < 64 := by omega
          have HTK := Aside0.mk htk
          have HME := Aside0.mk hm
          have HI := Aside0.mk c1
          have HB3 := Aside0.mk (below_alloc HB2.out (.cells #[.int .i64 (p : Int), .int .i64 (q : Int)] 74))
          have HG3 := Aside0.mk (blk_alloc HG2.out (.cells #[.int .i64 (p : Int), .int .i64 (q : Int)] 74))
          have hc := setb x q HX.out.2
          have s0 : min p 64 = p := by omega
          have s0' : min q 64 = q := by omega
          have s1 := shlU p (by omega)
          have s2 := orPow x p HX.out.2 (by omega)
          have Hq : Aside0 (x.testBit q = x.testBit q) := ⟨rfl⟩
          obtain ⟨bf, hbf⟩ : ∃ b, x.testBit q = b := ⟨_, rfl⟩
          rw [hbf] at hc
          have HBF := Aside0.mk hbf
          have HP64 := Aside0.mk hp64
          have HQ64 := Aside0.mk hq64
          clear he hm htk p1 p2 p3 p4 hbf Hq
          cases bf with
          | false =>
            go_wp2
            go_roundg (gk - 1)
            case measure => have := HJ.out; have := HI.out; omega
            case rel =>
              refine ⟨x, i + 1, rfl, (by first | exact congrArg _ HE5.out | rfl), ⟨by have := HJ.out; have := HI.out; omega⟩, HX, HSX, HMX, ⟨fun hxc e he h => ?_⟩, HG3, HB3⟩
              rw [HTK.out] at he
              rcases List.mem_append.1 he with he | he
              · exact HCX.out hxc e he h
              · rw [List.mem_singleton.1 he] at h
                rw [show (x.testBit (Prod.snd ((p : Int), (q : Int))).toNat) = x.testBit q from rfl, HBF.out] at h
                cases h
          | true =>
            go_wp2
            go_roundg (gk - 1)
            case measure => have := HJ.out; have := HI.out; omega
            case rel =>
              refine ⟨x ||| 2 ^ p, i + 1, rfl, (by first | exact congrArg _ HE5.out | rfl), ⟨by have := HJ.out; have := HI.out; omega⟩, ⟨Nat.le_trans HX.out.1 (le_or _ _), Nat.or_lt_two_pow HX.out.2 (Nat.pow_lt_pow_right (by decide) (by have := HP64.out; have := HQ64.out; omega))⟩, ⟨HSX.out.or_left⟩, ⟨fun z hz hsz => (HMX.out z hz hsz).or (hz _ HME.out (HMX.out z hz hsz _ HBF.out))⟩, ⟨fun hxc e he h => ?_⟩, HG3, HB3⟩
              have hxe : x ||| 2 ^ p = x := Nat.le_antisymm (by rw [hxc]; exact HX.out.1) (le_or _ _)
              rw [hxe] at hxc h ⊢
              rw [HTK.out] at he
              rcases List.mem_append.1 he with he | he
              · exact HCX.out hxc e he h
              · rw [List.mem_singleton.1 he]
                show x.testBit p = true
                rw [← hxe, Nat.testBit_or, Nat.testBit_two_pow]
                simp
        · have e1 : decide (i < E.length) = false := decide_eq_false c1
          have hi : E.take i = E := List.take_of_length_le (by omega)
          have HIT := Aside0.mk hi
          clear hi c1
          by_cases q : x = cur
          · subst q
            go_wp2
            go_roundg 0
            case measure => have := HK.out trivial; have := HLT.out; omega
            case rel => exact ⟨x, false, rfl, rfl, ⟨fun h => by cases h⟩, ⟨fun _ e he => HCX.out trivial e (by rw [HIT.out]; exact he)⟩, ⟨HX.out.2⟩, HSX, HMX, HG2, HB2⟩
          · have e2 : ((x : Int) != (cur : Int)) = true := by simp; omega
            have HQ := Aside0.mk q
            clear q
            go_wp2
            go_roundg (2 ^ 64 + 1 - x)
            case measure => have := HK.out trivial; have := HX.out; have := HQ.out; omega
            case rel => exact ⟨x, true, rfl, rfl, ⟨fun _ => Nat.le_refl _⟩, ⟨fun h => by cases h⟩, ⟨HX.out.2⟩, HSX, HMX, HG2, HB2⟩
set_option maxHeartbeats 8000000 in
set_option maxRecDepth 20000 in
theorem spread01_T (n : Nat) (E : List Stp) (A : Option Addr) (c s : Nat) (w : World) (hs : s < 2 ^ 64) (h : Kd.C kP w A E.length E) (hR : rightG n E = true) :
    Calls Tryd.prog 56 #[.agg #[.int .i64 (n : Int), .slice A E.length c], .int .u64 (s : Int), .int .i64 0, .int .i64 1] w fun e w' => ∃ d, e = .returned (.int .u64 ((d : Nat) : Int)) ∧ Least Prod.fst Prod.snd E s d ∧ Below w.heap.size w w' := by
  obtain ⟨hE, ⟨hN0, hN1⟩, hl, hEN⟩ := rightG_in hR
  have HC := Aside0.mk h
  have HE := Aside0.mk hE
  have HL := Aside0.mk hl
  have HS := Aside0.mk hs
  clear h hE hl hs hR hEN hN0 hN1
  go_enter Tryd.func56, Tryd.ntmps56
  go_wp2
  go_loopg [1, 9] (2 ^ 64 + 1) (fun kq v1 v9 w' => ∃ (cur : Nat) (ag : Bool), v1 = .int .u64 (cur : Int) ∧ v9 = .bool ag ∧ Aside0 (ag = true → 2 ^ 64 + 1 - cur ≤ kq) ∧ Aside0 (ag = false → Cl Prod.fst Prod.snd E cur) ∧ Aside0 (cur < 2 ^ 64) ∧ Aside0 (Sub s cur) ∧ Aside0 (∀ x, Cl Prod.fst Prod.snd E x → Sub s x → Sub cur x) ∧ Aside0 (w'.heap[w.heap.size]? = some (.cells #[.int .i64 (n : Int), .slice A E.length c] 62 (0, 0))) ∧ Aside0 (Below w.heap.size w w'))
  case atStart => exact ⟨s, true, rfl, rfl, ⟨fun _ => Nat.sub_le _ _⟩, ⟨fun h => by cases h⟩, HS, ⟨Sub.refl s⟩, ⟨fun x _ h => h⟩, ⟨heap_last _ _⟩, ⟨below_alloc (Below.refl _ _) _⟩⟩
  case round =>
    obtain ⟨cur, ag, rfl, rfl, HK, HCL, HLT, HSB, HMN, HG, HB⟩ := hrel
    have g1 := (blk_cell HG.out) 1
    cases ag with
    | false =>
      go_wp2
      go_ret
      exact ⟨cur, rfl, ⟨HLT.out, HCL.out trivial, HSB.out, HMN.out⟩, HB.out⟩
    | true =>
      go_wp2
      go_loopg [1, 18] E.length (fun kq v1 v18 w' => ∃ (x i : Nat), v1 = .int .u64 (x : Int) ∧ v18 = .int .i64 (i : Int) ∧ Aside0 (i + kq = E.length) ∧ Aside0 (cur ≤ x ∧ x < 2 ^ 64) ∧ Aside0 (Sub s x) ∧ Aside0 (∀ z, Cl Prod.fst Prod.snd E z → Sub s z → Sub x z) ∧ Aside0 (x = cur → ∀ e ∈ E.take i, x.testBit (Prod.fst e).toNat = true → x.testBit (Prod.snd e).toNat = true) ∧ Aside0 (w'.heap[w.heap.size]? = some (.cells #[.int .i64 (n : Int), .slice A E.length c] 62 (0, 0))) ∧ Aside0 (Below w.heap.size w w'))
      case atStart => exact ⟨cur, 0, rfl, rfl, ⟨by omega⟩, ⟨Nat.le_refl _, HLT.out⟩, HSB, HMN, ⟨fun _ e he => by simp at he⟩, HG, HB⟩
      case round =>
        rename_i J0 K0 hJ0 hK0
        clear g1
        obtain ⟨x, i, rfl, rfl, HJ, HX, HSX, HMX, HCX, HG2, HB2⟩ := hrel
        by_cases c1 : i < E.length
        · have e1 : decide (i < E.length) = true := decide_eq_true c1
          have HE5 : Aside0 (wrap64 ((i : Int) + 1) = ((i + 1 : Nat) : Int)) := ⟨by have := HL.out; unfold wrap64; omega⟩
          obtain ⟨ad, ea, hx, hy⟩ := at_stp HC.out i c1
          cases ea
          replace hx := pw_cell_below HB2.out hx
          replace hy := pw_cell_below HB2.out hy
          obtain ⟨e, he⟩ : ∃ e, E.getD i (0, 0) = e := ⟨_, rfl⟩
          have hm : e ∈ E := by rw [← he]; exact getD_mem c1 _
          obtain ⟨⟨p1, p2⟩, ⟨p3, p4⟩⟩ := HE.out e hm
          have htk : E.take (i + 1) = E.take i ++ [e] := by rw [List.take_add_one, ← he]; simp [c1]
          rw [he] at hx hy
          obtain ⟨p, q⟩ := e
          obtain ⟨p, rfl⟩ := Int.eq_ofNat_of_zero_le p1
          obtain ⟨q, rfl⟩ := Int.eq_ofNat_of_zero_le p3
          dsimp only at p2 p4 hx hy
          have hp64 : p < 64 := by omega
          have hq64 : q < 64 := by omega
          have HTK := Aside0.mk htk
          have HME := Aside0.mk hm
          have HI := Aside0.mk c1
          have HB3 := Aside0.mk (below_alloc HB2.out (.cells #[.int .i64 (p : Int), .int .i64 (q : Int)] 74))
          have HG3 := Aside0.mk (blk_alloc HG2.out (.cells #[.int .i64 (p : Int), .int .i64 (q : Int)] 74))
          have hc := setb x p HX.out.2
          have s0 : min p 64 = p := by omega
          have s0' : min q 64 = q := by omega
          have s1 := shlU q (by omega)
          have s2 := orPow x q HX.out.2 (by omega)
          have Hp : Aside0 (x.testBit p = x.testBit p) := ⟨rfl⟩
          obtain ⟨bf, hbf⟩ : ∃ b, x.testBit p = b := ⟨_, rfl⟩
          rw [hbf] at hc
          have HBF := Aside0.mk hbf
          have HP64 := Aside0.mk hp64
          have HQ64 := Aside0.mk hq64
          clear he hm htk p1 p2 p3 p4 hbf Hp
          cases bf with
          | false =>
            go_wp2
            go_roundg (gk - 1)
            case measure => have := HJ.out; have := HI.out; omega
            case rel =>
              refine ⟨x, i + 1, rfl, (by first | exact congrArg _ HE5.out | rfl), ⟨by have := HJ.out; have := HI.out; omega⟩, HX, HSX, HMX, ⟨fun hxc e he h => ?_⟩, HG3, HB3⟩
              rw [HTK.out] at he
              rcases List.mem_append.1 he with he | he
              · exact HCX.out hxc e he h
              · rw [List.mem_singleton.1 he] at h
                rw [show (x.testBit (Prod.fst ((p : Int), (q : Int))).toNat) = x.testBit p from rfl, HBF.out] at h
                cases h
          | true =>
            go_wp2
            go_roundg (gk - 1)
            case measure => have := HJ.out; have := HI.out; omega
            case rel =>
              refine ⟨x ||| 2 ^ q, i + 1, rfl, (by first | exact congrArg _ HE5.out | rfl), ⟨by have := HJ.out; have := HI.out; omega⟩, ⟨Nat.le_trans HX.out.1 (le_or _ _), Nat.or_lt_two_pow HX.out.2 (Nat.pow_lt_pow_right (by decide) (by have := HP64.out; have := HQ64.out; omega))⟩, ⟨HSX.out.or_left⟩, ⟨fun z hz hsz => (HMX.out z hz hsz).or (hz _ HME.out (HMX.out z hz hsz _ HBF.out))⟩, ⟨fun hxc e he h => ?_⟩, HG3, HB3⟩
              have hxe : x ||| 2 ^ q = x := Nat.le_antisymm (by rw [hxc]; exact HX.out.1) (le_or _ _)
              rw [hxe] at hxc h ⊢
              rw [HTK.out] at he
              rcases List.mem_append.1 he with he | he
              · exact HCX.out hxc e he h
              · rw [List.mem_singleton.1 he]
                show x.testBit q = true
                rw [← hxe, Nat.testBit_or, Nat.testBit_two_pow]
                simp
        · have e1 : decide (i < E.length) = false := decide_eq_false c1
          have hi : E.take i = E := List.take_of_length_le (by omega)
          have HIT := Aside0.mk hi
          clear hi c1
          by_cases q : x = cur
          · subst q
            go_wp2
            go_roundg 0
            case measure => have := HK.out trivial; have := HLT.out; omega
            case rel => exact ⟨x, false, rfl, rfl, ⟨fun h => by cases h⟩, ⟨fun _ e he => HCX.out trivial e (by rw [HIT.out]; exact he)⟩, ⟨HX.out.2⟩, HSX, HMX, HG2, HB2⟩
          · have e2 : ((x : Int) != (cur : Int)) = true := by simp; omega
            have HQ := Aside0.mk q
            clear q
            go_wp2
            go_roundg (2 ^ 64 + 1 - x)
            case measure => have := HK.out trivial; have := HX.out; have := HQ.out; omega
            case rel => exact ⟨x, true, rfl, rfl, ⟨fun _ => Nat.le_refl _⟩, ⟨fun h => by cases h⟩, ⟨HX.out.2⟩, HSX, HMX, HG2, HB2⟩
end Go.Proofs.YtplhihakeodadaaDoor.Sg
namespace Go.Proofs.YtplhihakeodadaaDoor.Sg
open Go Go.RowKit Go.Proofs.YtplhihakeodadaaDoorW.PrintWords Go.Proofs.YtplhihakeodadaaDoorW.PrintLast Go.Proofs.YtplhihakeodadaaDoorW.PrintMore
set_option linter.unusedVariables false
set_option linter.unusedSimpArgs false
theorem inside_right {N : Int} {E : List Stp} {s : Nat} (h : insideE N E s = 0) : rightG N E = true := by
  cases hr : rightG N E with
  | true => rfl
  | false => unfold insideE at h; rw [hr] at h; cases h
set_option maxHeartbeats 4000000 in
set_option maxRecDepth 20000 in
theorem Down_T (N : Int) (E : List Stp) (A : Option Addr) (c s : Nat) (w : World) (hs : s < 2 ^ 64) (h : Kd.C kP w A E.length E) (hE : E.length ≤ 1000000000) (hl : N ≤ 9223372036854775807) (hl0 : -9223372036854775808 ≤ N) :
    Calls Tryd.prog 37 #[.agg #[.int .i64 N, .slice A E.length c], .int .u64 (s : Int)] w fun e w' => ∃ d : Nat, e = .returned (.tuple #[.int .u64 (d : Int), .int .i64 (insideE N E s)]) ∧ (insideE N E s = 0 → Least Prod.snd Prod.fst E s d) ∧ (insideE N E s ≠ 0 → d = 0) ∧ Below w.heap.size w w' := by
  have hb0 := below_alloc (Below.refl w.heap.size w) (.cells #[.int .i64 N, .slice A E.length c] 62)
  have HX := Aside0.mk (heap_last w (.cells #[.int .i64 N, .slice A E.length c] 62))
  have K := Aside0.mk (right_T N E A c s (w.alloc (.cells #[.int .i64 N, .slice A E.length c] 62)) hs (Kd.C_below h hb0) hE hl hl0)
  have HB := Aside0.mk hb0
  have HC := Aside0.mk h
  have HS := Aside0.mk hs
  have h0 := (blk_cell HX.out) 0
  have h1 := (blk_cell HX.out) 1
  clear hb0 h hs hE hl hl0
  go_enter Tryd.func37, Tryd.ntmps37
  go_wp2_with (fail)
  refine K.out.mono ?_
  rintro e w1 ⟨rfl, hb⟩
  have HB1 := Aside0.mk (below_step HB.out hb)
  have HX1 := Aside0.mk (blk_below HX.out hb)
  clear K hb h0 h1
  by_cases ci : insideE N E s = 0
  · have HZ := Aside0.mk ci
    have hR := inside_right ci
    have h0n := (rightG_in hR).2.1.1
    obtain ⟨n, rfl⟩ := Int.eq_ofNat_of_zero_le h0n
    have K := Aside0.mk (spread10_T n E A c s w1 HS.out (Kd.C_below HC.out HB1.out) hR)
    have g0 := (blk_cell HX1.out) 0
    have g1 := (blk_cell HX1.out) 1
    rw [ci]
    clear hR h0n ci
    go_wp2_with (fail)
    refine K.out.mono ?_
    rintro e w2 ⟨d, rfl, hd, hb⟩
    have HD := Aside0.mk hd
    have HB2 := Aside0.mk (below_step HB1.out hb)
    clear g0 g1 hd hb K
    go_wp2
    refine bodyPost_ret (v := .tuple #[.int .u64 (d : Int), .int .i64 0]) (by simp [results, Tryd.results37, go_sem]) rfl ?_
    exact ⟨d, by rw [HZ.out], fun _ => HD.out, fun h => absurd HZ.out h, HB2.out⟩
  · have ci' : ((insideE N E s) != 0) = true := by simpa using ci
    have HZ := Aside0.mk ci
    clear ci
    go_wp2
    refine bodyPost_ret (v := .tuple #[.int .u64 0, .int .i64 (insideE N E s)]) (by simp [results, Tryd.results37, go_sem]) rfl ?_
    exact ⟨0, rfl, fun h => absurd h HZ.out, fun _ => rfl, HB1.out⟩
set_option maxHeartbeats 4000000 in
set_option maxRecDepth 20000 in
theorem Up_T (N : Int) (E : List Stp) (A : Option Addr) (c s : Nat) (w : World) (hs : s < 2 ^ 64) (h : Kd.C kP w A E.length E) (hE : E.length ≤ 1000000000) (hl : N ≤ 9223372036854775807) (hl0 : -9223372036854775808 ≤ N) :
    Calls Tryd.prog 38 #[.agg #[.int .i64 N, .slice A E.length c], .int .u64 (s : Int)] w fun e w' => ∃ d : Nat, e = .returned (.tuple #[.int .u64 (d : Int), .int .i64 (insideE N E s)]) ∧ (insideE N E s = 0 → Least Prod.fst Prod.snd E s d) ∧ (insideE N E s ≠ 0 → d = 0) ∧ Below w.heap.size w w' := by
  have hb0 := below_alloc (Below.refl w.heap.size w) (.cells #[.int .i64 N, .slice A E.length c] 62)
  have HX := Aside0.mk (heap_last w (.cells #[.int .i64 N, .slice A E.length c] 62))
  have K := Aside0.mk (right_T N E A c s (w.alloc (.cells #[.int .i64 N, .slice A E.length c] 62)) hs (Kd.C_below h hb0) hE hl hl0)
  have HB := Aside0.mk hb0
  have HC := Aside0.mk h
  have HS := Aside0.mk hs
  have h0 := (blk_cell HX.out) 0
  have h1 := (blk_cell HX.out) 1
  clear hb0 h hs hE hl hl0
  go_enter Tryd.func38, Tryd.ntmps38
  go_wp2_with (fail)
  refine K.out.mono ?_
  rintro e w1 ⟨rfl, hb⟩
  have HB1 := Aside0.mk (below_step HB.out hb)
  have HX1 := Aside0.mk (blk_below HX.out hb)
  clear K hb h0 h1
  by_cases ci : insideE N E s = 0
  · have HZ := Aside0.mk ci
    have hR := inside_right ci
    have h0n := (rightG_in hR).2.1.1
    obtain ⟨n, rfl⟩ := Int.eq_ofNat_of_zero_le h0n
    have K := Aside0.mk (spread01_T n E A c s w1 HS.out (Kd.C_below HC.out HB1.out) hR)
    have g0 := (blk_cell HX1.out) 0
    have g1 := (blk_cell HX1.out) 1
    rw [ci]
    clear hR h0n ci
    go_wp2_with (fail)
    refine K.out.mono ?_
    rintro e w2 ⟨d, rfl, hd, hb⟩
    have HD := Aside0.mk hd
    have HB2 := Aside0.mk (below_step HB1.out hb)
    clear g0 g1 hd hb K
    go_wp2
    refine bodyPost_ret (v := .tuple #[.int .u64 (d : Int), .int .i64 0]) (by simp [results, Tryd.results38, go_sem]) rfl ?_
    exact ⟨d, by rw [HZ.out], fun _ => HD.out, fun h => absurd HZ.out h, HB2.out⟩
  · have ci' : ((insideE N E s) != 0) = true := by simpa using ci
    have HZ := Aside0.mk ci
    clear ci
    go_wp2
    refine bodyPost_ret (v := .tuple #[.int .u64 0, .int .i64 (insideE N E s)]) (by simp [results, Tryd.results38, go_sem]) rfl ?_
    exact ⟨0, rfl, fun h => absurd h HZ.out, fun _ => rfl, HB1.out⟩
end Go.Proofs.YtplhihakeodadaaDoor.Sg
namespace Go.Proofs.YtplhihakeodadaaDoor.Sg
open Go Go.RowKit Go.Proofs.YtplhihakeodadaaDoorW.PrintWords Go.Proofs.YtplhihakeodadaaDoorW.PrintLast Go.Proofs.YtplhihakeodadaaDoorW.PrintMore
set_option linter.unusedVariables false
set_option linter.unusedSimpArgs false
theorem andPow (a x : Nat) : bits .andNot .u64 (a : Int) ((2 : Int) ^ x) = ((andN a (2 ^ x) : Nat) : Int) := by
  rw [← andNU]
  simp
/-- One of a set with one of the set behind it. -/
def behindE (E : List Stp) (s i : Nat) : Bool := E.any fun e => decide (e.1.toNat = i) && s.testBit e.2.toNat
set_option maxHeartbeats 8000000 in
set_option maxRecDepth 20000 in
theorem Border_T (N : Int) (E : List Stp) (A : Option Addr) (c s : Nat) (w : World) (hs : s < 2 ^ 64) (h : Kd.C kP w A E.length E) (hE : E.length ≤ 1000000000) (hl : N ≤ 9223372036854775807) (hl0 : -9223372036854775808 ≤ N) :
    Calls Tryd.prog 39 #[.agg #[.int .i64 N, .slice A E.length c], .int .u64 (s : Int)] w fun e w' => ∃ d : Nat, e = .returned (.tuple #[.int .u64 (d : Int), .int .i64 (insideE N E s)]) ∧ (insideE N E s = 0 → d < 2 ^ 64 ∧ ∀ i, d.testBit i = (s.testBit i && !behindE E s i)) ∧ (insideE N E s ≠ 0 → d = 0) ∧ Below w.heap.size w w' := by
  have hb0 := below_alloc (Below.refl w.heap.size w) (.cells #[.int .i64 N, .slice A E.length c] 62)
  have HX := Aside0.mk (heap_last w (.cells #[.int .i64 N, .slice A E.length c] 62))
  have K := Aside0.mk (right_T N E A c s (w.alloc (.cells #[.int .i64 N, .slice A E.length c] 62)) hs (Kd.C_below h hb0) hE hl hl0)
  have HB := Aside0.mk hb0
  have HC := Aside0.mk h
  have HS := Aside0.mk hs
  have h0 := (blk_cell HX.out) 0
  have h1 := (blk_cell HX.out) 1
  clear hb0 h hs hE hl hl0
  go_enter Tryd.func39, Tryd.ntmps39
  go_wp2_with (fail)
  refine K.out.mono ?_
  rintro e w1 ⟨rfl, hb⟩
  have HB1 := Aside0.mk (below_step HB.out hb)
  have HX1 := Aside0.mk (blk_below HX.out hb)
  clear K hb h0 h1
  by_cases ci : insideE N E s = 0
  · have HZ := Aside0.mk ci
    have hR := inside_right ci
    obtain ⟨hE, _, hl, _⟩ := rightG_in hR
    have HE := Aside0.mk hE
    have HL := Aside0.mk hl
    have g0 := (blk_cell HX1.out) 0
    have g1 := (blk_cell HX1.out) 1
    rw [ci]
    clear hR ci hE hl
    go_wp2
    clear g0 g1
    go_loopg [7, 20] E.length (fun kq v7 v20 w' => ∃ (d i : Nat), v7 = .int .u64 (d : Int) ∧ v20 = .int .i64 (i : Int) ∧ Aside0 (i + kq = E.length) ∧ Aside0 (d < 2 ^ 64) ∧ Aside0 (∀ j, d.testBit j = (s.testBit j && !behindE (E.take i) s j)) ∧ Aside0 (Below w.heap.size w w'))
    case atStart => exact ⟨s, 0, rfl, rfl, ⟨by omega⟩, HS, ⟨fun j => by simp [behindE]⟩, HB1⟩
    case round =>
      obtain ⟨d, i, rfl, rfl, HJ, HD, HF, HB2⟩ := hrel
      by_cases c1 : i < E.length
      · have e1 : decide (i < E.length) = true := decide_eq_true c1
        have HE5 : Aside0 (wrap64 ((i : Int) + 1) = ((i + 1 : Nat) : Int)) := ⟨by have := HL.out; unfold wrap64; omega⟩
        obtain ⟨ad, ea, hx, hy⟩ := at_stp HC.out i c1
        cases ea
        replace hx := pw_cell_below HB2.out hx
        replace hy := pw_cell_below HB2.out hy
        obtain ⟨e, he⟩ : ∃ e, E.getD i (0, 0) = e := ⟨_, rfl⟩
        have hm : e ∈ E := by rw [← he]; exact getD_mem c1 _
        obtain ⟨⟨p1, p2⟩, ⟨p3, p4⟩⟩ := HE.out e hm
        have htk : E.take (i + 1) = E.take i ++ [e] := by rw [List.take_add_one, ← he]; simp [c1]
        rw [he] at hx hy
        obtain ⟨p, q⟩ := e
        obtain ⟨p, rfl⟩ := Int.eq_ofNat_of_zero_le p1
        obtain ⟨q, rfl⟩ := Int.eq_ofNat_of_zero_le p3
        dsimp only at p2 p4 hx hy
        have hp64 : p < 64 := by omega
        have hq64 : q < 64 := by omega
        have hbe : ∀ j, behindE (E.take (i + 1)) s j = (behindE (E.take i) s j || (decide (p = j) && s.testBit q)) := fun j => by
          rw [htk]
          unfold behindE
          rw [List.any_append]
          simp
        have HBE := Aside0.mk hbe
        have HI := Aside0.mk c1
        have HB3 := Aside0.mk (below_alloc HB2.out (.cells #[.int .i64 (p : Int), .int .i64 (q : Int)] 74))
        have hc := setb s p HS.out
        have hc2 := setb s q HS.out
        have s0 : min p 64 = p := by omega
        have s0' : min q 64 = q := by omega
        have s1 := shlU p hp64
        have s2 := andPow d p
        obtain ⟨bp, hbp⟩ : ∃ b, s.testBit p = b := ⟨_, rfl⟩
        obtain ⟨bq, hbq⟩ : ∃ b, s.testBit q = b := ⟨_, rfl⟩
        rw [hbp] at hc
        rw [hbq] at hc2
        have HBP := Aside0.mk hbp
        have HBQ := Aside0.mk hbq
        clear he hm htk p1 p2 p3 p4 hbp hbq hbe
        cases bp with
        | false =>
          go_wp2
          go_roundg (gk - 1)
          case measure => have := HJ.out; have := HI.out; omega
          case rel =>
            refine ⟨d, i + 1, rfl, (by first | exact congrArg _ HE5.out | rfl), ⟨by have := HJ.out; have := HI.out; omega⟩, HD, ⟨fun j => ?_⟩, HB3⟩
            rw [HBE.out, HF.out]
            by_cases cj : p = j
            · subst cj
              rw [HBP.out]
              rfl
            · simp [cj]
        | true =>
          cases bq with
          | false =>
            go_wp2
            go_roundg (gk - 1)
            case measure => have := HJ.out; have := HI.out; omega
            case rel =>
              refine ⟨d, i + 1, rfl, (by first | exact congrArg _ HE5.out | rfl), ⟨by have := HJ.out; have := HI.out; omega⟩, HD, ⟨fun j => ?_⟩, HB3⟩
              rw [HBE.out, HF.out, HBQ.out, Bool.and_false, Bool.or_false]
          | true =>
            go_wp2
            go_roundg (gk - 1)
            case measure => have := HJ.out; have := HI.out; omega
            case rel =>
              refine ⟨andN d (2 ^ p), i + 1, rfl, (by first | exact congrArg _ HE5.out | rfl), ⟨by have := HJ.out; have := HI.out; omega⟩, ⟨andN_lt _ _⟩, ⟨fun j => ?_⟩, HB3⟩
              rw [HBE.out, andN_bit _ _ _ HD.out, HF.out, HBQ.out, Nat.testBit_two_pow]
              cases s.testBit j <;> cases behindE (E.take i) s j <;> simp
      · have e1 : decide (i < E.length) = false := decide_eq_false c1
        have HIT : Aside0 (E.take i = E) := ⟨List.take_of_length_le (by omega)⟩
        go_wp2
        refine bodyPost_ret (v := .tuple #[.int .u64 (d : Int), .int .i64 0]) (by simp [results, Tryd.results39, go_sem]) rfl ?_
        exact ⟨d, by rw [HZ.out], fun _ => ⟨HD.out, fun j => by rw [HF.out, HIT.out]⟩, fun h => absurd HZ.out h, HB2.out⟩
  · have ci' : ((insideE N E s) != 0) = true := by simpa using ci
    have HZ := Aside0.mk ci
    clear ci
    go_wp2
    refine bodyPost_ret (v := .tuple #[.int .u64 0, .int .i64 (insideE N E s)]) (by simp [results, Tryd.results39, go_sem]) rfl ?_
    exact ⟨0, rfl, fun h => absurd h HZ.out, fun _ => rfl, HB1.out⟩
end Go.Proofs.YtplhihakeodadaaDoor.Sg
