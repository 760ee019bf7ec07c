/- What the statements make of catalogues: the document's form of them, walked. -/
import Derived.Test.YthefbeekcjchcaaMade
namespace Go.Proofs.Ythefbeekcjchcaa.P
open Go Go.RowKit Go.Proofs.YthefbeekcjchcaaW.PrintWords Go.Proofs.YthefbeekcjchcaaW.PrintLast Go.Proofs.YthefbeekcjchcaaW.PrintMore
set_option linter.unusedVariables false
set_option linter.unusedSimpArgs false
def okNd (n : Nd) : Bool := okRng n.2
def okRel (r : Rel) : Bool := decide (r.2.2.length ≤ 12) && decide (r.1.2.2.2.size ≤ 100) && r.2.2.all okNd
def okSvc (s : Svc) : Bool := decide (s.1.size ≤ 100) && decide (s.2.length ≤ 16) && s.2.all okRel
def okCat (x : List Svc) : Bool := decide (x.length ≤ 16) && x.all okSvc
def zNd : Nd := (0, [])
def zRel : Rel := (noVer, 0, [])
def zSvc : Svc := (ByteArray.empty, [])
theorem at_nd {w : World} {A : Option Addr} {l : List Nd} (h : Kd.C kNd w A l.length l) (i : Nat) (hi : i < l.length) :
    ∃ ad Ai ci, A = some ad ∧ w.cell? (ad.add (i * 2)) = some (.int .i64 (l.getD i zNd).1) ∧ w.cell? ⟨(ad.add (i * 2)).block, (ad.add (i * 2)).off + 1, none⟩ = some (.slice Ai (l.getD i zNd).2.length ci) ∧ (l.getD i zNd).2.length ≤ ci ∧ Kd.C kCmps w Ai (l.getD i zNd).2.length (l.getD i zNd).2 := by
  obtain ⟨ad, cs, ea, hcl, hK, hcc⟩ := Kd.C_get h zNd (i : Int) (by omega) (by omega)
  rw [Int.toNat_natCast] at hK hcc
  obtain ⟨z0, z1, rfl, y0, ⟨Ai, ci, rfl, hle, hC⟩⟩ := hK
  cases y0
  have hj : ∀ j u, ([Value.int .i64 (l.getD i zNd).1, .slice Ai (l.getD i zNd).2.length ci] : List Value)[j]? = some u → w.cell? ((ad.add (i * 2)).add j) = some u := fun j u hu => by
    rw [Addr.add_add]
    exact hcc j u hu
  exact ⟨ad, Ai, ci, ea, hj 0 _ rfl, hj 1 _ rfl, hle, hC⟩
theorem at_svc {w : World} {A : Option Addr} {l : List Svc} (h : Kd.C kSvc w A l.length l) (i : Nat) (hi : i < l.length) :
    ∃ ad Ai ci, A = some ad ∧ w.cell? (ad.add (i * 2)) = some (.string (l.getD i zSvc).1) ∧ w.cell? ⟨(ad.add (i * 2)).block, (ad.add (i * 2)).off + 1, none⟩ = some (.slice Ai (l.getD i zSvc).2.length ci) ∧ (l.getD i zSvc).2.length ≤ ci ∧ Kd.C kRel w Ai (l.getD i zSvc).2.length (l.getD i zSvc).2 := by
  obtain ⟨ad, cs, ea, hcl, hK, hcc⟩ := Kd.C_get h zSvc (i : Int) (by omega) (by omega)
  rw [Int.toNat_natCast] at hK hcc
  obtain ⟨z0, z1, rfl, y0, ⟨Ai, ci, rfl, hle, hC⟩⟩ := hK
  cases y0
  have hj : ∀ j u, ([Value.string (l.getD i zSvc).1, .slice Ai (l.getD i zSvc).2.length ci] : List Value)[j]? = some u → w.cell? ((ad.add (i * 2)).add j) = some u := fun j u hu => by
    rw [Addr.add_add]
    exact hcc j u hu
  exact ⟨ad, Ai, ci, ea, hj 0 _ rfl, hj 1 _ rfl, hle, hC⟩
theorem at_rel {w : World} {A : Option Addr} {l : List Rel} (h : Kd.C kRel w A l.length l) (i : Nat) (hi : i < l.length) :
    ∃ ad Ai ci, A = some ad ∧ w.cell? (ad.add (i * 6)) = some (.int .i64 (l.getD i zRel).1.1) ∧ w.cell? ⟨(ad.add (i * 6)).block, (ad.add (i * 6)).off + 1, none⟩ = some (.int .i64 (l.getD i zRel).1.2.1) ∧ w.cell? ⟨(ad.add (i * 6)).block, (ad.add (i * 6)).off + 2, none⟩ = some (.int .i64 (l.getD i zRel).1.2.2.1) ∧ w.cell? ⟨(ad.add (i * 6)).block, (ad.add (i * 6)).off + 3, none⟩ = some (.string (l.getD i zRel).1.2.2.2) ∧ w.cell? ⟨(ad.add (i * 6)).block, (ad.add (i * 6)).off + 4, none⟩ = some (.int .i64 (l.getD i zRel).2.1) ∧ w.cell? ⟨(ad.add (i * 6)).block, (ad.add (i * 6)).off + 5, none⟩ = some (.slice Ai (l.getD i zRel).2.2.length ci) ∧ (l.getD i zRel).2.2.length ≤ ci ∧ Kd.C kNd w Ai (l.getD i zRel).2.2.length (l.getD i zRel).2.2 := by
  obtain ⟨ad, cs, ea, hcl, hK, hcc⟩ := Kd.C_get h zRel (i : Int) (by omega) (by omega)
  rw [Int.toNat_natCast] at hK hcc
  obtain ⟨z0, z1, rfl, ⟨z2, z3, rfl, y0, z4, z5, rfl, y1, z6, z7, rfl, y2, y3⟩, z8, z9, rfl, y4, ⟨Ai, ci, rfl, hle, hC⟩⟩ := hK
  cases y0
  cases y1
  cases y2
  cases y3
  cases y4
  have hj : ∀ j u, ([Value.int .i64 (l.getD i zRel).1.1, .int .i64 (l.getD i zRel).1.2.1, .int .i64 (l.getD i zRel).1.2.2.1, .string (l.getD i zRel).1.2.2.2, .int .i64 (l.getD i zRel).2.1, .slice Ai (l.getD i zRel).2.2.length ci] : List Value)[j]? = some u → w.cell? ((ad.add (i * 6)).add j) = some u := fun j u hu => by
    rw [Addr.add_add]
    exact hcc j u hu
  exact ⟨ad, Ai, ci, ea, hj 0 _ rfl, hj 1 _ rfl, hj 2 _ rfl, hj 3 _ rfl, hj 4 _ rfl, hj 5 _ rfl, hle, hC⟩
theorem info_mn : (Try.prog.info? 137).map (fun i => (i.zero, i.size, i.bytes)) = some (some (.agg #[.int .i64 0, .slice none 0 0]), 2, 32) := by kernel_rfl
theorem info_mr : (Try.prog.info? 125).map (fun i => (i.zero, i.size, i.bytes)) = some (some (.agg #[.int .i64 0, .int .i64 0, .int .i64 0, .string ⟨#[]⟩, .int .i64 0, .slice none 0 0]), 6, 72) := by kernel_rfl
theorem info_ms : (Try.prog.info? 116).map (fun i => (i.zero, i.size, i.bytes)) = some (some (.agg #[.string ⟨#[]⟩, .slice none 0 0]), 2, 40) := by kernel_rfl
theorem M_nd {W : World} {base base' : Nat} {sv : Int} {rg : Rng} {A : Option Addr} {c : Nat} (h : kCmpsR.R 175 W base (fun _ => True) (.slice A rg.length c) rg) (hb : base' ≤ base) : kNdR.M W base' (fun _ => True) (sv, rg) [.int .i64 sv, .slice A rg.length c] := ⟨[_], [_], rfl, rfl, ⟨_, rfl, Kd.R_lower h hb⟩⟩
theorem M_rel {W : World} {base base' : Nat} {a b cc l : Int} {s : ByteArray} {nds : List Nd} {A : Option Addr} {c : Nat} (h : kNdR.R 137 W base (fun _ => True) (.slice A nds.length c) nds) (hb : base' ≤ base) : kRelR.M W base' (fun _ => True) ((a, b, cc, s), l, nds) [.int .i64 a, .int .i64 b, .int .i64 cc, .string s, .int .i64 l, .slice A nds.length c] := ⟨[_, _, _, _], [_, _], rfl, ⟨[_], [_, _, _], rfl, rfl, [_], [_, _], rfl, rfl, [_], [_], rfl, rfl, rfl⟩, [_], [_], rfl, rfl, ⟨_, rfl, Kd.R_lower h hb⟩⟩
theorem M_svc {W : World} {base base' : Nat} {s : ByteArray} {rs : List Rel} {A : Option Addr} {c : Nat} (h : kRelR.R 125 W base (fun _ => True) (.slice A rs.length c) rs) (hb : base' ≤ base) : kSvcR.M W base' (fun _ => True) (s, rs) [.string s, .slice A rs.length c] := ⟨[_], [_], rfl, rfl, ⟨_, rfl, Kd.R_lower h hb⟩⟩
set_option maxHeartbeats 8000000 in
set_option maxRecDepth 20000 in
theorem Catalog_T (x : List Svc) (A : Option Addr) (c : Nat) (w : World) (h : Kd.C kSvc w A x.length x) :
    Calls Try.prog 23 #[.agg #[.slice A x.length c]] w fun e w' => ∃ Au nu cu, e = .returned (.tuple #[.agg #[.slice Au nu cu], .bool (okCat x)]) ∧ (okCat x = true → kSvcR.R 116 w' w.heap.size (fun _ => True) (.slice Au nu cu) x) ∧ Below w.heap.size w w' := by
  have HC := Aside0.mk h
  obtain ⟨R, hR⟩ : ∃ r, okCat x = r := ⟨_, rfl⟩
  rw [hR]
  have HR := Aside0.mk hR
  clear hR
  have M0 := Aside0.mk (MB.start w #[.slice A x.length c] #[.slice none 0 0] 61 64)
  have hp0 := (blk_cell M0.out.a0) 0
  clear h
  by_cases q : x.length ≤ 16
  · have d : decide (16 < (x.length : Int)) = false := decide_eq_false (by omega)
    have HQ := Aside0.mk q
    clear q
    go_enter Try.func23, Try.ntmps23
    go_wp2
    clear hp0 d
    go_loopg [6, 7, 9, 10, 12, 13, 14, 23, 44, 68] x.length (fun kq v6 v7 v9 v10 v12 v13 v14 v23 v44 v68 w' => ∃ (i : Nat) (A2 : Option Addr) (c2 : Nat), v23 = .int .i64 (i : Int) ∧ Aside0 (i + kq = x.length) ∧ Aside0 ((x.take i).all okSvc = true) ∧ Aside0 (kSvcR.R 116 w' w.heap.size (fun _ => True) (.slice A2 i c2) (x.take i)) ∧ Aside0 (MB w 61 64 #[.slice A x.length c] #[.slice none 0 0] #[.slice A2 i c2] w'))
    case atStart => exact ⟨0, none, 0, rfl, ⟨by omega⟩, ⟨rfl⟩, ⟨Kd.R_nil _ _ _ _ _⟩, M0⟩
    case round =>
      clear M0
      obtain ⟨i, A2, c2, rfl, HJ, HOK, O1, M1⟩ := hrel
      by_cases c1 : i < x.length
      · have e1 : decide (i < x.length) = true := decide_eq_true c1
        have HE5 : Aside0 (wrap64 ((i : Int) + 1) = ((i + 1 : Nat) : Int)) := ⟨by have := HQ.out; unfold wrap64; omega⟩
        have HI := Aside0.mk c1
        obtain ⟨ad, Ai, ci, ea, hx, hx', hle, hCl⟩ := at_svc HC.out i c1
        cases ea
        have hx0 := pw_cell_below M1.out.b hx
        have hx1 := pw_cell_below M1.out.b hx'
        obtain ⟨sv, hl⟩ : ∃ sv, x.getD i zSvc = sv := ⟨_, rfl⟩
        rw [hl] at hx0 hx1 hle hCl
        have HL := Aside0.mk hl
        obtain ⟨nm, rels⟩ := sv
        dsimp only at hx0 hx1 hle hCl
        have HCL := Aside0.mk hCl
        have hbS := below_alloc (below_alloc (Below.refl wr.heap.size wr) (Obj.cells #[.string nm, .slice Ai rels.length ci] 113)) (Obj.cells #[.string nm, .slice none 0 0] 116)
        have M2 := Aside0.mk (M1.out.below hbS)
        have HBS := Aside0.mk hbS
        have hbox := heap_last (wr.alloc (Obj.cells #[.string nm, .slice Ai rels.length ci] 113)) (Obj.cells #[.string nm, .slice none 0 0] 116)
        rw [World.size_alloc] at hbox
        have HX := Aside0.mk hbox
        clear hx hx' hle hCl hl hbS hbox
        by_cases q1 : nm.size ≤ 100
        · have d1 : decide (100 < (nm.size : Int)) = false := decide_eq_false (by omega)
          by_cases q2 : rels.length ≤ 16
          · have d2 : decide (16 < (rels.length : Int)) = false := decide_eq_false (by omega)
            have HQ1 := Aside0.mk q1
            have HQ2 := Aside0.mk q2
            clear q1 q2
            obtain ⟨wo, hwo⟩ : ∃ wo : World, wo = wr := ⟨_, rfl⟩
            subst hwo
            obtain ⟨go, hgo⟩ : ∃ go : Nat, go = gk := ⟨_, rfl⟩
            subst hgo
            go_wp2
            clear hx0 hx1 d1 d2 e1
            go_loopg [9, 10, 12, 13, 14, 44, 68] rels.length (fun kq v9 v10 v12 v13 v14 v44 v68 w' => ∃ (j : Nat) (A3 : Option Addr) (c3 : Nat), v44 = .int .i64 (j : Int) ∧ Aside0 (j + kq = rels.length) ∧ Aside0 ((rels.take j).all okRel = true) ∧ Aside0 (kRelR.R 125 w' wo.heap.size (fun _ => True) (.slice A3 j c3) (rels.take j)) ∧ Aside0 (w'.heap[wo.heap.size + 1]? = some (.cells #[.string nm, .slice A3 j c3] 116)) ∧ Aside0 (Below wo.heap.size wo w'))
            case atStart => exact ⟨0, none, 0, rfl, ⟨by omega⟩, ⟨rfl⟩, ⟨Kd.R_nil _ _ _ _ _⟩, HX, HBS⟩
            case round =>
              clear HX HBS
              obtain ⟨j, A3, c3, rfl, HJ2, HOK2, O3, HX3, HB3⟩ := hrel
              have M3 := Aside0.mk (M1.out.below HB3.out)
              by_cases c4 : j < rels.length
              · have e2 : decide (j < rels.length) = true := decide_eq_true c4
                have HE52 : Aside0 (wrap64 ((j : Int) + 1) = ((j + 1 : Nat) : Int)) := ⟨by have := HQ2.out; unfold wrap64; omega⟩
                have HI2 := Aside0.mk c4
                obtain ⟨ad2, Aj, cj, ea2, y0, y1, y2, y3, y4, y5, hle, hCr⟩ := at_rel HCL.out j c4
                cases ea2
                have hx0 := pw_cell_below M3.out.b y0
                have hx1 := pw_cell_below M3.out.b y1
                have hx2 := pw_cell_below M3.out.b y2
                have hx3 := pw_cell_below M3.out.b y3
                have hx4 := pw_cell_below M3.out.b y4
                have hx5 := pw_cell_below M3.out.b y5
                obtain ⟨rl, hrl⟩ : ∃ rl, rels.getD j zRel = rl := ⟨_, rfl⟩
                rw [hrl] at hx0 hx1 hx2 hx3 hx4 hx5 hle hCr
                have HLR := Aside0.mk hrl
                obtain ⟨⟨a, b, cc, s⟩, lv, nds⟩ := rl
                dsimp only at hx0 hx1 hx2 hx3 hx4 hx5 hle hCr
                have HCR := Aside0.mk hCr
                have hbS := below_alloc (below_alloc (Below.refl wr.heap.size wr) (Obj.cells #[.int .i64 a, .int .i64 b, .int .i64 cc, .string s, .int .i64 lv, .slice Aj nds.length cj] 121)) (Obj.cells #[.int .i64 a, .int .i64 b, .int .i64 cc, .string s, .int .i64 lv, .slice none 0 0] 125)
                have M4 := Aside0.mk (M3.out.below hbS)
                have HBS2 := Aside0.mk hbS
                have hbox := heap_last (wr.alloc (Obj.cells #[.int .i64 a, .int .i64 b, .int .i64 cc, .string s, .int .i64 lv, .slice Aj nds.length cj] 121)) (Obj.cells #[.int .i64 a, .int .i64 b, .int .i64 cc, .string s, .int .i64 lv, .slice none 0 0] 125)
                rw [World.size_alloc] at hbox
                have HY := Aside0.mk hbox
                clear y0 y1 y2 y3 y4 y5 hle hCr hrl hbS hbox
                by_cases q3 : nds.length ≤ 12
                · have d3 : decide (12 < (nds.length : Int)) = false := decide_eq_false (by omega)
                  by_cases q4 : s.size ≤ 100
                  · have d4 : decide (100 < (s.size : Int)) = false := decide_eq_false (by omega)
                    have HQ3 := Aside0.mk q3
                    have HQ4 := Aside0.mk q4
                    clear q3 q4
                    obtain ⟨wo2, hwo⟩ : ∃ wo2 : World, wo2 = wr := ⟨_, rfl⟩
                    subst hwo
                    obtain ⟨go2, hgo⟩ : ∃ go2 : Nat, go2 = gk := ⟨_, rfl⟩
                    subst hgo
                    go_wp2
                    clear hx0 hx1 hx2 hx3 hx4 hx5 d3 d4 e2
                    go_loopg [12, 13, 14, 68] nds.length (fun kq v12 v13 v14 v68 w' => ∃ (k : Nat) (A5 : Option Addr) (c5 : Nat), v68 = .int .i64 (k : Int) ∧ Aside0 (k + kq = nds.length) ∧ Aside0 ((nds.take k).all okNd = true) ∧ Aside0 (kNdR.R 137 w' wo2.heap.size (fun _ => True) (.slice A5 k c5) (nds.take k)) ∧ Aside0 (w'.heap[wo2.heap.size + 1]? = some (.cells #[.int .i64 a, .int .i64 b, .int .i64 cc, .string s, .int .i64 lv, .slice A5 k c5] 125)) ∧ Aside0 (Below wo2.heap.size wo2 w'))
                    case atStart => exact ⟨0, none, 0, rfl, ⟨by omega⟩, ⟨rfl⟩, ⟨Kd.R_nil _ _ _ _ _⟩, HY, HBS2⟩
                    case round =>
                      clear HY HBS2
                      obtain ⟨k, A5, c5, rfl, HJ3, HOK3, O5, HY5, HB5⟩ := hrel
                      have HB35 := Aside0.mk (HB3.out.trans (HB5.out.mono HB3.out.size))
                      have M5 := Aside0.mk (M1.out.below HB35.out)
                      by_cases c6 : k < nds.length
                      · have e3 : decide (k < nds.length) = true := decide_eq_true c6
                        have HE53 : Aside0 (wrap64 ((k : Int) + 1) = ((k + 1 : Nat) : Int)) := ⟨by have := HQ3.out; unfold wrap64; omega⟩
                        have HI3 := Aside0.mk c6
                        obtain ⟨ad3, Ak, ck, ea3, y0, y1, hle, hCn⟩ := at_nd HCR.out k c6
                        cases ea3
                        have hx0 := pw_cell_below M5.out.b y0
                        have hx1 := pw_cell_below M5.out.b y1
                        obtain ⟨nd, hnd⟩ : ∃ nd, nds.getD k zNd = nd := ⟨_, rfl⟩
                        rw [hnd] at hx0 hx1 hle hCn
                        have HLN := Aside0.mk hnd
                        obtain ⟨sv, rg⟩ := nd
                        dsimp only at hx0 hx1 hle hCn
                        have hbN := below_alloc (Below.refl wr.heap.size wr) (Obj.cells #[.int .i64 sv, .slice Ak rg.length ck] 130)
                        have HN5 := Aside0.mk (heap_last wr (Obj.cells #[.int .i64 sv, .slice Ak rg.length ck] 130))
                        have M5a := Aside0.mk (M5.out.below hbN)
                        have O5a := Aside0.mk (Kd.R_below O5.out hbN)
                        have HY5a := Aside0.mk ((hbN.block _ (blk_lt HY5.out)).trans HY5.out)
                        have HB5a := Aside0.mk (HB5.out.trans (hbN.mono HB5.out.size))
                        have K := Aside0.mk (Range_T rg Ak ck (wr.alloc (Obj.cells #[.int .i64 sv, .slice Ak rg.length ck] 130)) (Kd.C_below hCn M5a.out.b))
                        obtain ⟨OK, hOK⟩ : ∃ b, okRng rg = b := ⟨_, rfl⟩
                        rw [hOK] at K
                        have HOKV := Aside0.mk hOK
                        clear y0 y1 hle hCn hnd hbN hOK
                        go_wp2_with (fail)
                        refine K.out.mono ?_
                        rintro e w5 ⟨Au, nu, cu, rfl, hok, hb⟩
                        have M5b := Aside0.mk (M5a.out.below hb)
                        have O5b := Aside0.mk (Kd.R_below O5a.out hb)
                        have HY5b := Aside0.mk ((hb.block _ (blk_lt HY5a.out)).trans HY5a.out)
                        have HN5b := Aside0.mk ((hb.block _ (blk_lt HN5.out)).trans HN5.out)
                        have HB5b := Aside0.mk (HB5a.out.trans (hb.mono HB5a.out.size))
                        clear hb K hx0 hx1 e3
                        cases OK with
                        | true =>
                          have hr := hok rfl
                          obtain ⟨Au', cu', hv⟩ := Kd.R_slice hr
                          cases hv
                          have hbZ := below_alloc (Below.refl w5.heap.size w5) (Obj.cells #[.slice Au rg.length cu] 133)
                          have O6 := Aside0.mk (Kd.R_below O5b.out hbZ)
                          have HV := Aside0.mk (Kd.M_apart (M_nd (sv := sv) (Kd.R_below hr hbZ) HB5a.out.size) O6.out (by decide))
                          have HY6 := Aside0.mk ((hbZ.block _ (blk_lt HY5b.out)).trans HY5b.out)
                          have HN6 := Aside0.mk ((hbZ.block _ (blk_lt HN5b.out)).trans HN5b.out)
                          have HB6 := Aside0.mk (HB5b.out.trans (hbZ.mono HB5b.out.size))
                          have hq6 := (blk_cell HY6.out) 5
                          have hn6 := (blk_cell HN6.out) 0
                          clear hok hr hbZ
                          go_wp2_with (first
                            | ((with_reducible refine gate_dst (N := 87) rfl ?_); go_must (refine Kd.R_lit kNdR (w0 := (w5.alloc (Obj.cells #[.slice Au rg.length cu] 133))) wo2.heap.size 137 ?hg (N := 87) ?hd (xs := [(sv, rg)]) (inner := [.int .i64 sv, .slice Au rg.length cu]) (ok := fun kk_ => True ∧ some kk_ ≠ (Value.slice A5 k c5).ownBlock) (okp := fun kk_ => True ∧ some kk_ ≠ (Value.slice A5 k c5).ownBlock) ?hr ?hp (fun _ hk => hk) ⟨trivial, Kd.R_fresh O6.out⟩ (Below.refl _ _) HB6.out.size (by simp) ?_; (case hd => rfl); (case hg => rfl); (case hr => first | (go_simp; done) | (go_simp; rfl)); (case hp => exact reps1 HV.out rfl); intro v43 w7 ho hb hg_ hnew_; obtain ⟨A43, c43, rfl, hcl43, hC43⟩ := OwnRow.reads ho.2; have HC43 := Aside0.mk hC43; have O7 := Aside0.mk (Kd.R_grown O6.out hg_ (fun _ _ => by simp)); have HY7 := Aside0.mk ((hg_.block _ (blk_lt HY6.out) (by simp)).trans HY6.out); have HB7 := Aside0.mk (HB6.out.trans hb); have hq7 := (blk_cell HY7.out) 5; clear hq6; clear ho hb hC43 hcl43 hg_ hnew_))
                            | ((with_reducible refine gate_builtin (b := .append) (xs := #[.tmp 82, .tmp 87]) rfl ?_); at_builtin; go_must (refine Kd.R_append_rows kNdR (w0 := w7) wo2.heap.size rfl (.tmp 82) (.tmp 87) 123 137 (.agg #[.int .i64 0, .slice none 0 0]) 32 rfl Try.underlying123 info_mn rfl (by decide) (by decide) (.slice A5 k c5) (nds.take k) [(sv, rg)] A43 1 c43 (fun _ => True) _ rfl rfl O7.out HC43.out (fun _ _ h => h) (fun k hk => ⟨trivial, hk.1.2⟩) (fun k hk => trivial) (Below.refl _ _) HB7.out.size (by have := HQ3.out; have := HI3.out; simp only [List.length_take]; omega) ?_; intro v44 w8 ho hb hgr hat; rw [← HLN.out, take_snoc HI3.out zNd] at ho; obtain ⟨A8, c8, hv8⟩ := Kd.R_slice ho; rw [List.length_take, Nat.min_eq_left (Nat.succ_le_of_lt HI3.out)] at hv8; subst hv8; have O8 := Aside0.mk ho; have HY8 := Aside0.mk ((hgr.block _ (blk_lt HY7.out) (Kd.R_ne O7.out HY7.out (by decide))).trans HY7.out); have HB8 := Aside0.mk (HB7.out.trans hb); have hq8 := (blk_cell HY8.out) 5; have hf8 := free_of HY8.out 5; clear hq7; clear ho hb hgr hat)))
                          go_roundg (gk - 1)
                          case measure => have := HJ3.out; have := HI3.out; omega
                          case rel => exact ⟨k + 1, A8, c8, (by first | exact congrArg _ HE53.out | rfl), ⟨by have := HJ3.out; have := HI3.out; omega⟩, ⟨take_ok HI3.out zNd HOK3.out (by rw [HLN.out]; exact HOKV.out)⟩, ⟨Kd.R_set O8.out HY8.out (by decide) 5 (.slice A8 (k + 1) c8)⟩, ⟨box_set (o := 5) HY8.out (.slice A8 (k + 1) c8)⟩, ⟨HB8.out.setCell (p := ⟨wo2.heap.size + 1, 5, none⟩) (by show _ ≤ wo2.heap.size + 1; omega) _⟩⟩
                        | false =>
                          have q5 := HOKV.out
                          have hbZ := below_alloc (Below.refl w5.heap.size w5) (Obj.cells #[.slice Au nu cu] 133)
                          have M6 := Aside0.mk (M5b.out.below hbZ)
                          clear hok hbZ
                          have hsv : okSvc (x.getD i zSvc) = false := by
                            rw [HL.out]
                            have hrl : okRel (rels.getD j zRel) = false := by
                              rw [HLR.out]
                              unfold okRel
                              rw [take_bad HI3.out zNd (show okNd (nds.getD k zNd) = false by rw [HLN.out]; exact q5), Bool.and_false]
                            unfold okSvc
                            rw [take_bad HI2.out zRel hrl, Bool.and_false]
                          have ho : okCat x = false := by
                            unfold okCat
                            rw [take_bad HI.out zSvc hsv, Bool.and_false]
                          obtain rfl : R = false := HR.out.symm.trans ho
                          have hz0 := (blk_cell M6.out.z0) 0
                          have hf0 := free_of M6.out.z0 0
                          have hc0 := (blk_cell M6.out.c0) 0
                          clear ho hsv
                          go_wp2
                          refine bodyPost_ret (v := .tuple #[.agg #[.slice A2 i c2], .bool false]) (by simp [results, Try.results23, go_sem, hz0]) rfl ?_
                          exact ⟨_, _, _, rfl, (fun h => by cases h), M6.out.b.setCell (p := ⟨w.heap.size + 1, 0, none⟩) (by show _ ≤ w.heap.size + 1; omega) _⟩
                      · have e3 : decide (k < nds.length) = false := decide_eq_false c6
                        have hkn : k = nds.length := by have := HJ3.out; omega
                        subst hkn
                        have O5' := O5.out
                        have HOK4 := HOK3.out
                        rw [List.take_length] at O5' HOK4
                        have HOC : Aside0 (okRel ((a, b, cc, s), lv, nds) = true) := ⟨by unfold okRel; rw [HOK4, Bool.and_true, decide_eq_true HQ3.out, decide_eq_true HQ4.out]; rfl⟩
                        have O7 := Aside0.mk (Kd.R_below O3.out HB5.out)
                        have HX5 := Aside0.mk ((HB5.out.block _ (blk_lt HX3.out)).trans HX3.out)
                        have HV := Aside0.mk (Kd.M_apart (M_rel (a := a) (b := b) (cc := cc) (s := s) (l := lv) O5' HB3.out.size) O7.out (by decide))
                        have hp1 := (blk_cell HX5.out) 1
                        have hq0 := (blk_cell HY5.out) 0
                        have hq1 := (blk_cell HY5.out) 1
                        have hq2 := (blk_cell HY5.out) 2
                        have hq3 := (blk_cell HY5.out) 3
                        have hq4 := (blk_cell HY5.out) 4
                        have hq5 := (blk_cell HY5.out) 5
                        clear c6 O5' HOK4
                        go_wp2_with (first
                          | ((with_reducible refine gate_dst (N := 94) rfl ?_); go_must (refine Kd.R_lit kRelR (w0 := wr) wo.heap.size 125 ?hg (N := 94) ?hd (xs := [((a, b, cc, s), lv, nds)]) (inner := [.int .i64 a, .int .i64 b, .int .i64 cc, .string s, .int .i64 lv, .slice A5 nds.length c5]) (ok := fun kk_ => True ∧ some kk_ ≠ (Value.slice A3 j c3).ownBlock) (okp := fun kk_ => True ∧ some kk_ ≠ (Value.slice A3 j c3).ownBlock) ?hr ?hp (fun _ hk => hk) ⟨trivial, Kd.R_fresh O7.out⟩ (Below.refl _ _) HB35.out.size (by simp) ?_; (case hd => rfl); (case hg => rfl); (case hr => first | (go_simp; done) | (go_simp; rfl)); (case hp => exact reps1 HV.out rfl); intro v43 w7 ho hb hg_ hnew_; obtain ⟨A43, c43, rfl, hcl43, hC43⟩ := OwnRow.reads ho.2; have HC43 := Aside0.mk hC43; have O9 := Aside0.mk (Kd.R_grown O7.out hg_ (fun _ _ => by simp)); have HX7 := Aside0.mk ((hg_.block _ (blk_lt HX5.out) (by simp)).trans HX5.out); have HB7 := Aside0.mk (HB35.out.trans hb); have hq7 := (blk_cell HX7.out) 1; clear hp1; clear ho hb hC43 hcl43 hg_ hnew_))
                          | ((with_reducible refine gate_builtin (b := .append) (xs := #[.tmp 92, .tmp 94]) rfl ?_); at_builtin; go_must (refine Kd.R_append_rows kRelR (w0 := w7) wo.heap.size rfl (.tmp 92) (.tmp 94) 114 125 (.agg #[.int .i64 0, .int .i64 0, .int .i64 0, .string ⟨#[]⟩, .int .i64 0, .slice none 0 0]) 72 rfl Try.underlying114 info_mr rfl (by decide) (by decide) (.slice A3 j c3) (rels.take j) [((a, b, cc, s), lv, nds)] A43 1 c43 (fun _ => True) _ rfl rfl O9.out HC43.out (fun _ _ h => h) (fun k hk => ⟨trivial, hk.1.2⟩) (fun k hk => trivial) (Below.refl _ _) HB7.out.size (by have := HQ2.out; have := HI2.out; simp only [List.length_take]; omega) ?_; intro v44 w8 ho hb hgr hat; rw [← HLR.out, take_snoc HI2.out zRel] at ho; obtain ⟨A8, c8, hv8⟩ := Kd.R_slice ho; rw [List.length_take, Nat.min_eq_left (Nat.succ_le_of_lt HI2.out)] at hv8; subst hv8; have O8 := Aside0.mk ho; have HX8 := Aside0.mk ((hgr.block _ (blk_lt HX7.out) (Kd.R_ne O9.out HX7.out (by decide))).trans HX7.out); have HB8 := Aside0.mk (HB7.out.trans hb); have hq8 := (blk_cell HX8.out) 1; have hf8 := free_of HX8.out 1; clear hq7; clear ho hb hgr hat)))
                        go_roundg (go2 - 1)
                        case measure => have := HJ2.out; have := HI2.out; omega
                        case rel => exact ⟨j + 1, A8, c8, (by first | exact congrArg _ HE52.out | rfl), ⟨by have := HJ2.out; have := HI2.out; omega⟩, ⟨take_ok HI2.out zRel HOK2.out (by rw [HLR.out]; exact HOC.out)⟩, ⟨Kd.R_set O8.out HX8.out (by decide) 1 (.slice A8 (j + 1) c8)⟩, ⟨box_set (o := 1) HX8.out (.slice A8 (j + 1) c8)⟩, ⟨HB8.out.setCell (p := ⟨wo.heap.size + 1, 1, none⟩) (by show _ ≤ wo.heap.size + 1; omega) _⟩⟩
                  · have d4 : decide (100 < (s.size : Int)) = true := decide_eq_true (by omega)
                    have hsv : okSvc (x.getD i zSvc) = false := by
                      rw [HL.out]
                      have hrl : okRel (rels.getD j zRel) = false := by
                        rw [HLR.out]
                        unfold okRel
                        rw [decide_eq_false q4, Bool.and_false, Bool.false_and]
                      unfold okSvc
                      rw [take_bad HI2.out zRel hrl, Bool.and_false]
                    have ho : okCat x = false := by
                      unfold okCat
                      rw [take_bad HI.out zSvc hsv, Bool.and_false]
                    obtain rfl : R = false := HR.out.symm.trans ho
                    have hz0 := (blk_cell M4.out.z0) 0
                    have hf0 := free_of M4.out.z0 0
                    have hc0 := (blk_cell M4.out.c0) 0
                    clear ho hsv
                    go_wp2
                    refine bodyPost_ret (v := .tuple #[.agg #[.slice A2 i c2], .bool false]) (by simp [results, Try.results23, go_sem, hz0]) rfl ?_
                    exact ⟨_, _, _, rfl, (fun h => by cases h), M4.out.b.setCell (p := ⟨w.heap.size + 1, 0, none⟩) (by show _ ≤ w.heap.size + 1; omega) _⟩
                · have d3 : decide (12 < (nds.length : Int)) = true := decide_eq_true (by omega)
                  have hsv : okSvc (x.getD i zSvc) = false := by
                    rw [HL.out]
                    have hrl : okRel (rels.getD j zRel) = false := by
                      rw [HLR.out]
                      unfold okRel
                      rw [decide_eq_false q3, Bool.false_and, Bool.false_and]
                    unfold okSvc
                    rw [take_bad HI2.out zRel hrl, Bool.and_false]
                  have ho : okCat x = false := by
                    unfold okCat
                    rw [take_bad HI.out zSvc hsv, Bool.and_false]
                  obtain rfl : R = false := HR.out.symm.trans ho
                  have hz0 := (blk_cell M4.out.z0) 0
                  have hf0 := free_of M4.out.z0 0
                  have hc0 := (blk_cell M4.out.c0) 0
                  clear ho hsv
                  go_wp2
                  refine bodyPost_ret (v := .tuple #[.agg #[.slice A2 i c2], .bool false]) (by simp [results, Try.results23, go_sem, hz0]) rfl ?_
                  exact ⟨_, _, _, rfl, (fun h => by cases h), M4.out.b.setCell (p := ⟨w.heap.size + 1, 0, none⟩) (by show _ ≤ w.heap.size + 1; omega) _⟩
              · have e2 : decide (j < rels.length) = false := decide_eq_false c4
                have hjn : j = rels.length := by have := HJ2.out; omega
                subst hjn
                have O3' := O3.out
                have HOK4 := HOK2.out
                rw [List.take_length] at O3' HOK4
                have HOC : Aside0 (okSvc (nm, rels) = true) := ⟨by unfold okSvc; rw [HOK4, Bool.and_true, decide_eq_true HQ1.out, decide_eq_true HQ2.out]; rfl⟩
                have O4 := Aside0.mk (Kd.R_below O1.out HB3.out)
                have HV := Aside0.mk (Kd.M_apart (M_svc (s := nm) O3' M1.out.b.size) O4.out (by decide))
                have hq := (blk_cell M3.out.c0) 0
                have hp0 := (blk_cell HX3.out) 0
                have hp1 := (blk_cell HX3.out) 1
                clear c4 O3' HOK4
                go_wp2_with (first
                  | ((with_reducible refine gate_dst (N := 101) rfl ?_); go_must (refine Kd.R_lit kSvcR (w0 := wr) w.heap.size 116 ?hg (N := 101) ?hd (xs := [(nm, rels)]) (inner := [.string nm, .slice A3 rels.length c3]) (ok := fun kk_ => True ∧ some kk_ ≠ (Value.slice A2 i c2).ownBlock) (okp := fun kk_ => True ∧ some kk_ ≠ (Value.slice A2 i c2).ownBlock) ?hr ?hp (fun _ hk => hk) ⟨trivial, Kd.R_fresh O4.out⟩ (Below.refl _ _) M3.out.b.size (by simp) ?_; (case hd => rfl); (case hg => rfl); (case hr => first | (go_simp; done) | (go_simp; rfl)); (case hp => exact reps1 HV.out rfl); intro v43 w7 ho hb hg_ hnew_; obtain ⟨A43, c43, rfl, hcl43, hC43⟩ := OwnRow.reads ho.2; have HC43 := Aside0.mk hC43; have O5 := Aside0.mk (Kd.R_grown O4.out hg_ (fun _ _ => by simp)); have M5 := Aside0.mk (M3.out.grow hb hg_ (by simp) (by simp) (by simp)); have hq5 := (blk_cell M5.out.c0) 0; clear hq; clear ho hb hC43 hcl43 hg_ hnew_))
                  | ((with_reducible refine gate_builtin (b := .append) (xs := #[.tmp 99, .tmp 101]) rfl ?_); at_builtin; go_must (refine Kd.R_append_rows kSvcR (w0 := w7) w.heap.size rfl (.tmp 99) (.tmp 101) 62 116 (.agg #[.string ⟨#[]⟩, .slice none 0 0]) 40 rfl Try.underlying62 info_ms rfl (by decide) (by decide) (.slice A2 i c2) (x.take i) [(nm, rels)] A43 1 c43 (fun _ => True) _ rfl rfl O5.out HC43.out (fun _ _ h => h) (fun k hk => ⟨trivial, hk.1.2⟩) (fun k hk => trivial) (Below.refl _ _) M5.out.b.size (by have := HQ.out; have := HI.out; simp only [List.length_take]; omega) ?_; intro v44 w8 ho hb hgr hat; rw [← HL.out, take_snoc HI.out zSvc] at ho; obtain ⟨A8, c8, hv8⟩ := Kd.R_slice ho; rw [List.length_take, Nat.min_eq_left (Nat.succ_le_of_lt HI.out)] at hv8; subst hv8; have O8 := Aside0.mk ho; have M6 := Aside0.mk (M5.out.grow hb hgr (Kd.R_ne O5.out M5.out.a0 (by decide)) (Kd.R_ne O5.out M5.out.z0 (by decide)) (Kd.R_ne O5.out M5.out.c0 (by decide))); have hq8 := (blk_cell M6.out.c0) 0; have hf8 := free_of M6.out.c0 0; clear hq5; clear ho hb hgr hat)))
                go_roundg (go - 1)
                case measure => have := HJ.out; have := HI.out; omega
                case rel => exact ⟨i + 1, A8, c8, (by first | exact congrArg _ HE5.out | rfl), ⟨by have := HJ.out; have := HI.out; omega⟩, ⟨take_ok HI.out zSvc HOK.out (by rw [HL.out]; exact HOC.out)⟩, ⟨Kd.R_set O8.out M6.out.c0 (by decide) 0 (.slice A8 (i + 1) c8)⟩, ⟨M6.out.set 0 (.slice A8 (i + 1) c8)⟩⟩
          · have d2 : decide (16 < (rels.length : Int)) = true := decide_eq_true (by omega)
            have hsv : okSvc (x.getD i zSvc) = false := by
              rw [HL.out]
              unfold okSvc
              rw [decide_eq_false q2, Bool.and_false, Bool.false_and]
            have ho : okCat x = false := by
              unfold okCat
              rw [take_bad HI.out zSvc hsv, Bool.and_false]
            obtain rfl : R = false := HR.out.symm.trans ho
            have hz0 := (blk_cell M2.out.z0) 0
            have hf0 := free_of M2.out.z0 0
            have hc0 := (blk_cell M2.out.c0) 0
            clear ho hsv
            go_wp2
            refine bodyPost_ret (v := .tuple #[.agg #[.slice A2 i c2], .bool false]) (by simp [results, Try.results23, go_sem, hz0]) rfl ?_
            exact ⟨_, _, _, rfl, (fun h => by cases h), M2.out.b.setCell (p := ⟨w.heap.size + 1, 0, none⟩) (by show _ ≤ w.heap.size + 1; omega) _⟩
        · have d1 : decide (100 < (nm.size : Int)) = true := decide_eq_true (by omega)
          have hsv : okSvc (x.getD i zSvc) = false := by
            rw [HL.out]
            unfold okSvc
            rw [decide_eq_false q1, Bool.false_and, Bool.false_and]
          have ho : okCat x = false := by
            unfold okCat
            rw [take_bad HI.out zSvc hsv, Bool.and_false]
          obtain rfl : R = false := HR.out.symm.trans ho
          have hz0 := (blk_cell M2.out.z0) 0
          have hf0 := free_of M2.out.z0 0
          have hc0 := (blk_cell M2.out.c0) 0
          clear ho hsv
          go_wp2
          refine bodyPost_ret (v := .tuple #[.agg #[.slice A2 i c2], .bool false]) (by simp [results, Try.results23, go_sem, hz0]) rfl ?_
          exact ⟨_, _, _, rfl, (fun h => by cases h), M2.out.b.setCell (p := ⟨w.heap.size + 1, 0, none⟩) (by show _ ≤ w.heap.size + 1; omega) _⟩
      · have e1 : decide (i < x.length) = false := decide_eq_false c1
        have hi : i = x.length := by have := HJ.out; omega
        subst hi
        have ho : okCat x = true := by
          have := HOK.out
          rw [List.take_length] at this
          unfold okCat
          rw [this, Bool.and_true]
          exact decide_eq_true HQ.out
        obtain rfl : R = true := HR.out.symm.trans ho
        have hz0 := (blk_cell M1.out.z0) 0
        have hf0 := free_of M1.out.z0 0
        have hc0 := (blk_cell M1.out.c0) 0
        clear c1 ho
        go_wp2
        refine bodyPost_ret (v := .tuple #[.agg #[.slice A2 x.length c2], .bool true]) (by simp [results, Try.results23, go_sem, hz0]) rfl ?_
        have hfin : kSvcR.R 116 (wr.setCell ⟨w.heap.size + 1, 0, none⟩ (.slice A2 x.length c2)) w.heap.size (fun _ => True) (.slice A2 x.length c2) x := by have := Kd.R_set O1.out M1.out.z0 (by decide) 0 (.slice A2 x.length c2); rwa [List.take_length] at this
        exact ⟨_, _, _, rfl, (by first | exact hfin | exact fun _ => hfin), M1.out.b.setCell (p := ⟨w.heap.size + 1, 0, none⟩) (by show _ ≤ w.heap.size + 1; omega) _⟩
  · have d : decide (16 < (x.length : Int)) = true := decide_eq_true (by omega)
    have ho : okCat x = false := by unfold okCat; rw [decide_eq_false q, Bool.false_and]
    obtain rfl : R = false := HR.out.symm.trans ho
    have hz0 := (blk_cell M0.out.z0) 0
    have hf0 := free_of M0.out.z0 0
    have hc0 := (blk_cell M0.out.c0) 0
    clear q ho
    go_enter Try.func23, Try.ntmps23
    go_wp2
    refine bodyPost_ret (v := .tuple #[.agg #[.slice none 0 0], .bool false]) (by simp [results, Try.results23, go_sem, hz0]) rfl ?_
    exact ⟨_, _, _, rfl, (fun h => by cases h), M0.out.b⟩
end Go.Proofs.Ythefbeekcjchcaa.P
