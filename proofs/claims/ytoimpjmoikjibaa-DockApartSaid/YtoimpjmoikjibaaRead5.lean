/- A struct of five fields, read. -/
import Derived.Test.YtoimpjmoikjibaaRead
namespace Go.Proofs.Ytoimpjmoikjibaa.Read
open Go.RowKit Go.Deep Go.Proofs.YtoimpjmoikjibaaW.PrintWords
set_option linter.unusedVariables false
theorem Rd.five {P : Program} {t : TypeId} {f0 f1 f2 f3 f4 : Field} {α β γ δ ε : Type} {d0 : Kd α} {d1 : Kd β} {d2 : Kd γ} {d3 : Kd δ} {d4 : Kd ε} {g0 : α → Prop} {g1 : β → Prop} {g2 : γ → Prop} {g3 : δ → Prop} {g4 : ε → Prop} (r0 : Rd P f0.type d0 g0) (r1 : Rd P f1.type d1 g1) (r2 : Rd P f2.type d2 g2) (r3 : Rd P f3.type d3 g3) (r4 : Rd P f4.type d4 g4)
    (ht : P.underlying t = some (.struct #[f0, f1, f2, f3, f4])) (h0 : f0.offset = 0) (h1 : f1.offset = d0.sz) (h2 : f2.offset = d0.sz + d1.sz) (h3 : f3.offset = d0.sz + d1.sz + d2.sz) (h4 : f4.offset = d0.sz + d1.sz + d2.sz + d3.sz) (hc : P.cellsOf t = d0.sz + (d1.sz + (d2.sz + (d3.sz + d4.sz)))) :
    Rd P t (Kd.pair d0 (Kd.pair d1 (Kd.pair d2 (Kd.pair d3 d4)))) (fun x => g0 x.1 ∧ g1 x.2.1 ∧ g2 x.2.2.1 ∧ g3 x.2.2.2.1 ∧ g4 x.2.2.2.2) :=
  ⟨fun {H enc w base held fuel cs x} h => by
    obtain ⟨xs, n, _, _, hl, hlen, hf⟩ := DataW.trod_struct ht h
    have hlen2 : xs.length = 5 := hlen
    match xs, hlen2 with
    | [y0, y1, y2, y3, y4], _ =>
      have e0 := hf 0 f0 rfl
      have e1 := hf 1 f1 rfl
      have e2 := hf 2 f2 rfl
      have e3 := hf 3 f3 rfl
      have e4 := hf 4 f4 rfl
      rw [h0, r0.size] at e0
      rw [h1, r1.size] at e1
      rw [h2, r2.size] at e2
      rw [h3, r3.size] at e3
      rw [h4, r4.size] at e4
      obtain ⟨a, ka, ga⟩ := r0.read e0
      obtain ⟨b, kb, gb⟩ := r1.read e1
      obtain ⟨c, kc, gc⟩ := r2.read e2
      obtain ⟨d, kd, gd⟩ := r3.read e3
      obtain ⟨e, ke, ge⟩ := r4.read e4
      rw [hc] at hl
      refine ⟨(a, b, c, d, e), ⟨_, cs.drop d0.sz, ?_, ka, _, cs.drop (d0.sz + d1.sz), split_at_, kb, _, cs.drop (d0.sz + d1.sz + d2.sz), split_at_, kc, _, _, ?_, kd, ke⟩, ga, gb, gc, gd, ge⟩
      · rw [List.drop_zero, List.take_append_drop]
      · rw [take_all (o := d0.sz + d1.sz + d2.sz + d3.sz) (a := d4.sz) (by omega)]
        exact split_at_, hc⟩
end Go.Proofs.Ytoimpjmoikjibaa.Read
