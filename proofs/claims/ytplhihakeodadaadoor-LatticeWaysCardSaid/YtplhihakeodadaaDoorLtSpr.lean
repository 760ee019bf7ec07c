/- lattice: spread, both ways: the least set that is closed and has a set. -/
import Derived.Test.YtplhihakeodadaaDoorLtClo
namespace Go.Proofs.YtplhihakeodadaaDoor.Sg
open Go Go.RowKit Go.Proofs.YtplhihakeodadaaDoorW.PrintWords Go.Proofs.YtplhihakeodadaaDoorW.PrintLast Go.Proofs.YtplhihakeodadaaDoorW.PrintMore
set_option linter.unusedVariables false
set_option linter.unusedSimpArgs false
def Cl (f t : Stp → Int) (E : List Stp) (x : Nat) : Prop := ∀ e ∈ E, x.testBit (f e).toNat = true → x.testBit (t e).toNat = true
def Sub (a b : Nat) : Prop := ∀ i, a.testBit i = true → b.testBit i = true
theorem Sub.refl (a : Nat) : Sub a a := fun _ h => h
/-- The least closed set that has s. -/
structure Least (f t : Stp → Int) (E : List Stp) (s d : Nat) : Prop where
  lt : d < 2 ^ 64
  cl : Cl f t E d
  sub : Sub s d
  least : ∀ x, Cl f t E x → Sub s x → Sub d x
theorem le_or (a b : Nat) : a ≤ a ||| b := Nat.left_le_or
theorem Sub.or {a x i : Nat} (h : Sub a x) (hi : x.testBit i = true) : Sub (a ||| 2 ^ i) x := fun j hj => by
  rw [Nat.testBit_or, Bool.or_eq_true, Nat.testBit_two_pow, decide_eq_true_eq] at hj
  rcases hj with hj | rfl
  · exact h j hj
  · exact hi
theorem Sub.or_left {s a i : Nat} (h : Sub s a) : Sub s (a ||| 2 ^ i) := fun j hj => by
  rw [Nat.testBit_or, h j hj, Bool.true_or]
set_option maxHeartbeats 8000000 in
set_option maxRecDepth 20000 in
theorem spread10_T (n : Nat) (E : List Stp) (A : Option Addr) (c s : Nat) (w : World) (hs : s < 2 ^ 64) (h : Kd.C kP w A E.length E) (hR : rightG n E = true) :
    Calls Tryd.prog 56 #[.agg #[.int .i64 (n : Int), .slice A E.length c], .int .u64 (s : Int), .int .i64 1, .int .i64 0] w fun e w' => ∃ d, e = .returned (.int .u64 ((d : Nat) : Int)) ∧ Least Prod.snd Prod.fst E s d ∧ Below w.heap.size w w' := by
  obtain ⟨hE, ⟨hN0, hN1⟩, hl, hEN⟩ := rightG_in hR
  have HC := Aside0.mk h
  have HE := Aside0.mk hE
  have HL := Aside0.mk hl
  have HS := Aside0.mk hs
  clear h hE hl hs hR hEN hN0 hN1
  go_enter Tryd.func56, Tryd.ntmps56
  go_wp2
  go_loopg [1, 9] (2 ^ 64 + 1) (fun kq v1 v9 w' => ∃ (cur : Nat) (ag : Bool), v1 = .int .u64 (cur : Int) ∧ v9 = .bool ag ∧ Aside0 (ag = true → 2 ^ 64 + 1 - cur ≤ kq) ∧ Aside0 (ag = false → Cl Prod.snd Prod.fst E cur) ∧ Aside0 (cur < 2 ^ 64) ∧ Aside0 (Sub s cur) ∧ Aside0 (∀ x, Cl Prod.snd Prod.fst E x → Sub s x → Sub cur x) ∧ Aside0 (w'.heap[w.heap.size]? = some (.cells #[.int .i64 (n : Int), .slice A E.length c] 62 (0, 0))) ∧ Aside0 (Below w.heap.size w w'))
  case atStart => exact ⟨s, true, rfl, rfl, ⟨fun _ => Nat.sub_le _ _⟩, ⟨fun h => by cases h⟩, HS, ⟨Sub.refl s⟩, ⟨fun x _ h => h⟩, ⟨heap_last _ _⟩, ⟨below_alloc (Below.refl _ _) _⟩⟩
  case round =>
    obtain ⟨cur, ag, rfl, rfl, HK, HCL, HLT, HSB, HMN, HG, HB⟩ := hrel
    have g1 := (blk_cell HG.out) 1
    cases ag with
    | false =>
      go_wp2
      go_ret
      exact ⟨cur, rfl, ⟨HLT.out, HCL.out trivial, HSB.out, HMN.out⟩, HB.out⟩
    | true =>
      go_wp2
      go_loopg [1, 18] E.length (fun kq v1 v18 w' => ∃ (x i : Nat), v1 = .int .u64 (x : Int) ∧ v18 = .int .i64 (i : Int) ∧ Aside0 (i + kq = E.length) ∧ Aside0 (cur ≤ x ∧ x < 2 ^ 64) ∧ Aside0 (Sub s x) ∧ Aside0 (∀ z, Cl Prod.snd Prod.fst E z → Sub s z → Sub x z) ∧ Aside0 (x = cur → ∀ e ∈ E.take i, x.testBit (Prod.snd e).toNat = true → x.testBit (Prod.fst e).toNat = true) ∧ Aside0 (w'.heap[w.heap.size]? = some (.cells #[.int .i64 (n : Int), .slice A E.length c] 62 (0, 0))) ∧ Aside0 (Below w.heap.size w w'))
      case atStart => exact ⟨cur, 0, rfl, rfl, ⟨by omega⟩, ⟨Nat.le_refl _, HLT.out⟩, HSB, HMN, ⟨fun _ e he => by simp at he⟩, HG, HB⟩
      case round =>
        rename_i J0 K0 hJ0 hK0
        clear g1
        obtain ⟨x, i, rfl, rfl, HJ, HX, HSX, HMX, HCX, HG2, HB2⟩ := hrel
        by_cases c1 : i < E.length
        · have e1 : decide (i < E.length) = true := decide_eq_true c1
          have HE5 : Aside0 (wrap64 ((i : Int) + 1) = ((i + 1 : Nat) : Int)) := ⟨by have := HL.out; unfold wrap64; omega⟩
          obtain ⟨ad, ea, hx, hy⟩ := at_stp HC.out i c1
          cases ea
          replace hx := pw_cell_below HB2.out hx
          replace hy := pw_cell_below HB2.out hy
          obtain ⟨e, he⟩ : ∃ e, E.getD i (0, 0) = e := ⟨_, rfl⟩
          have hm : e ∈ E := by rw [← he]; exact getD_mem c1 _
          obtain ⟨⟨p1, p2⟩, ⟨p3, p4⟩⟩ := HE.out e hm
          have htk : E.take (i + 1) = E.take i ++ [e] := by rw [List.take_add_one, ← he]; simp [c1]
          rw [he] at hx hy
          obtain ⟨p, q⟩ := e
          obtain ⟨p, rfl⟩ := Int.eq_ofNat_of_zero_le p1
          obtain ⟨q, rfl⟩ := Int.eq_ofNat_of_zero_le p3
          dsimp only at p2 p4 hx hy
          have hp64 : p < 64 := by omega
          have hq64 : q < 64 := by omega
          have HTK := Aside0.mk htk
          have HME := Aside0.mk hm
          have HI := Aside0.mk c1
          have HB3 := Aside0.mk (below_alloc HB2.out (.cells #[.int .i64 (p : Int), .int .i64 (q : Int)] 74))
          have HG3 := Aside0.mk (blk_alloc HG2.out (.cells #[.int .i64 (p : Int), .int .i64 (q : Int)] 74))
          have hc := setb x q HX.out.2
          have s0 : min p 64 = p := by omega
          have s0' : min q 64 = q := by omega
          have s1 := shlU p (by omega)
          have s2 := orPow x p HX.out.2 (by omega)
          have Hq : Aside0 (x.testBit q = x.testBit q) := ⟨rfl⟩
          obtain ⟨bf, hbf⟩ : ∃ b, x.testBit q = b := ⟨_, rfl⟩
          rw [hbf] at hc
          have HBF := Aside0.mk hbf
          have HP64 := Aside0.mk hp64
          have HQ64 := Aside0.mk hq64
          clear he hm htk p1 p2 p3 p4 hbf Hq
          cases bf with
          | false =>
            go_wp2
            go_roundg (gk - 1)
            case measure => have := HJ.out; have := HI.out; omega
            case rel =>
              refine ⟨x, i + 1, rfl, (by first | exact congrArg _ HE5.out | rfl), ⟨by have := HJ.out; have := HI.out; omega⟩, HX, HSX, HMX, ⟨fun hxc e he h => ?_⟩, HG3, HB3⟩
              rw [HTK.out] at he
              rcases List.mem_append.1 he with he | he
              · exact HCX.out hxc e he h
              · rw [List.mem_singleton.1 he] at h
                rw [show (x.testBit (Prod.snd ((p : Int), (q : Int))).toNat) = x.testBit q from rfl, HBF.out] at h
                cases h
          | true =>
            go_wp2
            go_roundg (gk - 1)
            case measure => have := HJ.out; have := HI.out; omega
            case rel =>
              refine ⟨x ||| 2 ^ p, i + 1, rfl, (by first | exact congrArg _ HE5.out | rfl), ⟨by have := HJ.out; have := HI.out; omega⟩, ⟨Nat.le_trans HX.out.1 (le_or _ _), Nat.or_lt_two_pow HX.out.2 (Nat.pow_lt_pow_right (by decide) (by have := HP64.out; have := HQ64.out; omega))⟩, ⟨HSX.out.or_left⟩, ⟨fun z hz hsz => (HMX.out z hz hsz).or (hz _ HME.out (HMX.out z hz hsz _ HBF.out))⟩, ⟨fun hxc e he h => ?_⟩, HG3, HB3⟩
              have hxe : x ||| 2 ^ p = x := Nat.le_antisymm (by rw [hxc]; exact HX.out.1) (le_or _ _)
              rw [hxe] at hxc h ⊢
              rw [HTK.out] at he
              rcases List.mem_append.1 he with he | he
              · exact HCX.out hxc e he h
              · rw [List.mem_singleton.1 he]
                show x.testBit p = true
                rw [← hxe, Nat.testBit_or, Nat.testBit_two_pow]
                simp
        · have e1 : decide (i < E.length) = false := decide_eq_false c1
          have hi : E.take i = E := List.take_of_length_le (by omega)
          have HIT := Aside0.mk hi
          clear hi c1
          by_cases q : x = cur
          · subst q
            go_wp2
            go_roundg 0
            case measure => have := HK.out trivial; have := HLT.out; omega
            case rel => exact ⟨x, false, rfl, rfl, ⟨fun h => by cases h⟩, ⟨fun _ e he => HCX.out trivial e (by rw [HIT.out]; exact he)⟩, ⟨HX.out.2⟩, HSX, HMX, HG2, HB2⟩
          · have e2 : ((x : Int) != (cur : Int)) = true := by simp; omega
            have HQ := Aside0.mk q
            clear q
            go_wp2
            go_roundg (2 ^ 64 + 1 - x)
            case measure => have := HK.out trivial; have := HX.out; have := HQ.out; omega
            case rel => exact ⟨x, true, rfl, rfl, ⟨fun _ => Nat.le_refl _⟩, ⟨fun h => by cases h⟩, ⟨HX.out.2⟩, HSX, HMX, HG2, HB2⟩
set_option maxHeartbeats 8000000 in
set_option maxRecDepth 20000 in
theorem spread01_T (n : Nat) (E : List Stp) (A : Option Addr) (c s : Nat) (w : World) (hs : s < 2 ^ 64) (h : Kd.C kP w A E.length E) (hR : rightG n E = true) :
    Calls Tryd.prog 56 #[.agg #[.int .i64 (n : Int), .slice A E.length c], .int .u64 (s : Int), .int .i64 0, .int .i64 1] w fun e w' => ∃ d, e = .returned (.int .u64 ((d : Nat) : Int)) ∧ Least Prod.fst Prod.snd E s d ∧ Below w.heap.size w w' := by
  obtain ⟨hE, ⟨hN0, hN1⟩, hl, hEN⟩ := rightG_in hR
  have HC := Aside0.mk h
  have HE := Aside0.mk hE
  have HL := Aside0.mk hl
  have HS := Aside0.mk hs
  clear h hE hl hs hR hEN hN0 hN1
  go_enter Tryd.func56, Tryd.ntmps56
  go_wp2
  go_loopg [1, 9] (2 ^ 64 + 1) (fun kq v1 v9 w' => ∃ (cur : Nat) (ag : Bool), v1 = .int .u64 (cur : Int) ∧ v9 = .bool ag ∧ Aside0 (ag = true → 2 ^ 64 + 1 - cur ≤ kq) ∧ Aside0 (ag = false → Cl Prod.fst Prod.snd E cur) ∧ Aside0 (cur < 2 ^ 64) ∧ Aside0 (Sub s cur) ∧ Aside0 (∀ x, Cl Prod.fst Prod.snd E x → Sub s x → Sub cur x) ∧ Aside0 (w'.heap[w.heap.size]? = some (.cells #[.int .i64 (n : Int), .slice A E.length c] 62 (0, 0))) ∧ Aside0 (Below w.heap.size w w'))
  case atStart => exact ⟨s, true, rfl, rfl, ⟨fun _ => Nat.sub_le _ _⟩, ⟨fun h => by cases h⟩, HS, ⟨Sub.refl s⟩, ⟨fun x _ h => h⟩, ⟨heap_last _ _⟩, ⟨below_alloc (Below.refl _ _) _⟩⟩
  case round =>
    obtain ⟨cur, ag, rfl, rfl, HK, HCL, HLT, HSB, HMN, HG, HB⟩ := hrel
    have g1 := (blk_cell HG.out) 1
    cases ag with
    | false =>
      go_wp2
      go_ret
      exact ⟨cur, rfl, ⟨HLT.out, HCL.out trivial, HSB.out, HMN.out⟩, HB.out⟩
    | true =>
      go_wp2
      go_loopg [1, 18] E.length (fun kq v1 v18 w' => ∃ (x i : Nat), v1 = .int .u64 (x : Int) ∧ v18 = .int .i64 (i : Int) ∧ Aside0 (i + kq = E.length) ∧ Aside0 (cur ≤ x ∧ x < 2 ^ 64) ∧ Aside0 (Sub s x) ∧ Aside0 (∀ z, Cl Prod.fst Prod.snd E z → Sub s z → Sub x z) ∧ Aside0 (x = cur → ∀ e ∈ E.take i, x.testBit (Prod.fst e).toNat = true → x.testBit (Prod.snd e).toNat = true) ∧ Aside0 (w'.heap[w.heap.size]? = some (.cells #[.int .i64 (n : Int), .slice A E.length c] 62 (0, 0))) ∧ Aside0 (Below w.heap.size w w'))
      case atStart => exact ⟨cur, 0, rfl, rfl, ⟨by omega⟩, ⟨Nat.le_refl _, HLT.out⟩, HSB, HMN, ⟨fun _ e he => by simp at he⟩, HG, HB⟩
      case round =>
        rename_i J0 K0 hJ0 hK0
        clear g1
        obtain ⟨x, i, rfl, rfl, HJ, HX, HSX, HMX, HCX, HG2, HB2⟩ := hrel
        by_cases c1 : i < E.length
        · have e1 : decide (i < E.length) = true := decide_eq_true c1
          have HE5 : Aside0 (wrap64 ((i : Int) + 1) = ((i + 1 : Nat) : Int)) := ⟨by have := HL.out; unfold wrap64; omega⟩
          obtain ⟨ad, ea, hx, hy⟩ := at_stp HC.out i c1
          cases ea
          replace hx := pw_cell_below HB2.out hx
          replace hy := pw_cell_below HB2.out hy
          obtain ⟨e, he⟩ : ∃ e, E.getD i (0, 0) = e := ⟨_, rfl⟩
          have hm : e ∈ E := by rw [← he]; exact getD_mem c1 _
          obtain ⟨⟨p1, p2⟩, ⟨p3, p4⟩⟩ := HE.out e hm
          have htk : E.take (i + 1) = E.take i ++ [e] := by rw [List.take_add_one, ← he]; simp [c1]
          rw [he] at hx hy
          obtain ⟨p, q⟩ := e
          obtain ⟨p, rfl⟩ := Int.eq_ofNat_of_zero_le p1
          obtain ⟨q, rfl⟩ := Int.eq_ofNat_of_zero_le p3
          dsimp only at p2 p4 hx hy
          have hp64 : p < 64 := by omega
          have hq64 : q < 64 := by omega
          have HTK := Aside0.mk htk
          have HME := Aside0.mk hm
          have HI := Aside0.mk c1
          have HB3 := Aside0.mk (below_alloc HB2.out (.cells #[.int .i64 (p : Int), .int .i64 (q : Int)] 74))
          have HG3 := Aside0.mk (blk_alloc HG2.out (.cells #[.int .i64 (p : Int), .int .i64 (q : Int)] 74))
          have hc := setb x p HX.out.2
          have s0 : min p 64 = p := by omega
          have s0' : min q 64 = q := by omega
          have s1 := shlU q (by omega)
          have s2 := orPow x q HX.out.2 (by omega)
          have Hp : Aside0 (x.testBit p = x.testBit p) := ⟨rfl⟩
          obtain ⟨bf, hbf⟩ : ∃ b, x.testBit p = b := ⟨_, rfl⟩
          rw [hbf] at hc
          have HBF := Aside0.mk hbf
          have HP64 := Aside0.mk hp64
          have HQ64 := Aside0.mk hq64
          clear he hm htk p1 p2 p3 p4 hbf Hp
          cases bf with
          | false =>
            go_wp2
            go_roundg (gk - 1)
            case measure => have := HJ.out; have := HI.out; omega
            case rel =>
              refine ⟨x, i + 1, rfl, (by first | exact congrArg _ HE5.out | rfl), ⟨by have := HJ.out; have := HI.out; omega⟩, HX, HSX, HMX, ⟨fun hxc e he h => ?_⟩, HG3, HB3⟩
              rw [HTK.out] at he
              rcases List.mem_append.1 he with he | he
              · exact HCX.out hxc e he h
              · rw [List.mem_singleton.1 he] at h
                rw [show (x.testBit (Prod.fst ((p : Int), (q : Int))).toNat) = x.testBit p from rfl, HBF.out] at h
                cases h
          | true =>
            go_wp2
            go_roundg (gk - 1)
            case measure => have := HJ.out; have := HI.out; omega
            case rel =>
              refine ⟨x ||| 2 ^ q, i + 1, rfl, (by first | exact congrArg _ HE5.out | rfl), ⟨by have := HJ.out; have := HI.out; omega⟩, ⟨Nat.le_trans HX.out.1 (le_or _ _), Nat.or_lt_two_pow HX.out.2 (Nat.pow_lt_pow_right (by decide) (by have := HP64.out; have := HQ64.out; omega))⟩, ⟨HSX.out.or_left⟩, ⟨fun z hz hsz => (HMX.out z hz hsz).or (hz _ HME.out (HMX.out z hz hsz _ HBF.out))⟩, ⟨fun hxc e he h => ?_⟩, HG3, HB3⟩
              have hxe : x ||| 2 ^ q = x := Nat.le_antisymm (by rw [hxc]; exact HX.out.1) (le_or _ _)
              rw [hxe] at hxc h ⊢
              rw [HTK.out] at he
              rcases List.mem_append.1 he with he | he
              · exact HCX.out hxc e he h
              · rw [List.mem_singleton.1 he]
                show x.testBit q = true
                rw [← hxe, Nat.testBit_or, Nat.testBit_two_pow]
                simp
        · have e1 : decide (i < E.length) = false := decide_eq_false c1
          have hi : E.take i = E := List.take_of_length_le (by omega)
          have HIT := Aside0.mk hi
          clear hi c1
          by_cases q : x = cur
          · subst q
            go_wp2
            go_roundg 0
            case measure => have := HK.out trivial; have := HLT.out; omega
            case rel => exact ⟨x, false, rfl, rfl, ⟨fun h => by cases h⟩, ⟨fun _ e he => HCX.out trivial e (by rw [HIT.out]; exact he)⟩, ⟨HX.out.2⟩, HSX, HMX, HG2, HB2⟩
          · have e2 : ((x : Int) != (cur : Int)) = true := by simp; omega
            have HQ := Aside0.mk q
            clear q
            go_wp2
            go_roundg (2 ^ 64 + 1 - x)
            case measure => have := HK.out trivial; have := HX.out; have := HQ.out; omega
            case rel => exact ⟨x, true, rfl, rfl, ⟨fun _ => Nat.le_refl _⟩, ⟨fun h => by cases h⟩, ⟨HX.out.2⟩, HSX, HMX, HG2, HB2⟩
end Go.Proofs.YtplhihakeodadaaDoor.Sg
