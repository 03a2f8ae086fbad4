/-
  Layer 8, plain: the order of edges, inputs, outputs does not count; without one of them a port is open.
-/
import Derived.Test.YtpljnapglbmdlaaGtA
import Derived.Test.YtpljnapglbmdlaaGrV
namespace Go.Proofs.Ytpljnapglbmdlaa
open Go Go.RowKit Go.Joins
set_option linter.all false

def revG (g : Gr) : Gr := { g with edges := g.edges.reverse, ins := g.ins.reverse, outs := g.outs.reverse }
theorem rev_outs (g : Gr) : (outsL (revG g)).Perm (outsL g) := by
  unfold outsL revG
  exact ((List.reverse_perm _).map _).append ((List.reverse_perm _).map _)
theorem rev_ins (g : Gr) : (insL (revG g)).Perm (insL g) := by
  unfold insL revG
  exact ((List.reverse_perm _).map _).append ((List.reverse_perm _).map _)
theorem rev_names (g : Gr) : (allN (revG g)).Perm (allN g) := by
  unfold allN revG
  exact (List.Perm.refl _).append (((List.reverse_perm _).map _).append ((List.reverse_perm _).map _))
theorem Fair.rev {g : Gr} (h : Fair g) : Fair (revG g) := by
  refine ⟨h.nm, h.na1, h.na, ?_, ?_, ?_, fun s hs => h.nms s ((rev_names g).mem_iff.1 hs), ?_, h.shp, fun x hx => h.ln x (by simpa [revG] using hx), ?_, ?_, fun q hq => h.orr q ((rev_outs g).mem_iff.1 hq), fun q hq => h.irr q ((rev_ins g).mem_iff.1 hq)⟩
  · simpa [revG] using h.ne
  · simpa [revG] using h.ni
  · simpa [revG] using h.no
  · exact (((rev_names g).map bytesN).nodup_iff).2 h.nmd
  · exact ((rev_outs g).nodup_iff).2 h.od
  · exact ((rev_ins g).nodup_iff).2 h.idn
theorem Cov.rev {g : Gr} (h : Cov g) : Cov (revG g) :=
  ⟨fun k hk p hp => (rev_outs g).mem_iff.2 (h.o k hk p hp), fun k hk p hp => (rev_ins g).mem_iff.2 (h.i k hk p hp)⟩
theorem find_rev {g : Gr} (h : (findG g).1 = 0) : (findG (revG g)).1 = 0 := (find_fair h).1.rev.find.1 (find_fair h).2.rev

/-- Fewer edges, inputs, outputs: nothing but an open port. -/
theorem Fair.sub {g : Gr} (h : Fair g) {el : List GEdge} {il ol : List GPort} (e1 : el.Sublist g.edges) (e2 : il.Sublist g.ins) (e3 : ol.Sublist g.outs) : Fair { g with edges := el, ins := il, outs := ol } := by
  have so : (outsL { g with edges := el, ins := il, outs := ol }).Sublist (outsL g) := by unfold outsL; exact (e1.map _).append (e3.map _)
  have si : (insL { g with edges := el, ins := il, outs := ol }).Sublist (insL g) := by unfold insL; exact (e1.map _).append (e2.map _)
  have sn : (allN { g with edges := el, ins := il, outs := ol }).Sublist (allN g) := by unfold allN; exact (List.Sublist.refl _).append ((e2.map _).append (e3.map _))
  have l1 := e1.length_le; have l2 := e2.length_le; have l3 := e3.length_le
  have := h.ne; have := h.ni; have := h.no
  refine ⟨h.nm, h.na1, h.na, show el.length ≤ 96 by omega, show il.length ≤ 16 by omega, show ol.length ≤ 16 by omega, fun s hs => h.nms s (sn.subset hs), ?_, h.shp, fun x hx => h.ln x (e1.subset hx), ?_, ?_, fun q hq => h.orr q (so.subset hq), fun q hq => h.irr q (si.subset hq)⟩
  · exact List.Nodup.sublist (sn.map bytesN) h.nmd
  · exact List.Nodup.sublist so h.od
  · exact List.Nodup.sublist si h.idn
theorem not_cov_o {g h : Gr} (hf : Fair g) (ha : h.acts = g.acts) {q : Int × Int} (hq : q ∈ outsL g) (hn : q ∉ outsL h) : ¬ Cov h := fun hc => by
  obtain ⟨k, hk, e1, e2, e3⟩ := hf.orr q hq
  have := hc.o k (by rw [ha]; exact hk) q.2.toNat (by simp only [ha]; omega)
  rw [Int.toNat_of_nonneg e2, ← e1] at this
  exact hn this
theorem not_cov_i {g h : Gr} (hf : Fair g) (ha : h.acts = g.acts) {q : Int × Int} (hq : q ∈ insL g) (hn : q ∉ insL h) : ¬ Cov h := fun hc => by
  obtain ⟨k, hk, e1, e2, e3⟩ := hf.irr q hq
  have := hc.i k (by rw [ha]; exact hk) q.2.toNat (by simp only [ha]; omega)
  rw [Int.toNat_of_nonneg e2, ← e1] at this
  exact hn this
theorem Fair.lessE {g : Gr} (h : Fair g) {x : GEdge} {r : List GEdge} (e : g.edges = x :: r) : (findG { g with edges := r }).1 = 87 := by
  refine (h.sub (el := r) (by rw [e]; exact List.sublist_cons_self _ _) (List.Sublist.refl g.ins) (List.Sublist.refl g.outs)).find.2 ?_
  have ho := h.od
  unfold outsL at ho
  rw [e, List.map_cons, List.cons_append, List.nodup_cons] at ho
  exact not_cov_o h rfl (q := (x.f, x.fp)) (by unfold outsL; rw [e]; simp) ho.1
theorem Fair.lessI {g : Gr} (h : Fair g) {x : GPort} {r : List GPort} (e : g.ins = x :: r) : (findG { g with ins := r }).1 = 87 := by
  refine (h.sub (List.Sublist.refl g.edges) (il := r) (by rw [e]; exact List.sublist_cons_self _ _) (List.Sublist.refl g.outs)).find.2 ?_
  have ho := h.idn
  unfold insL at ho
  rw [e, List.map_cons] at ho
  have hp := (List.perm_middle (l₁ := g.edges.map (fun x => (x.t, x.tp))) (a := (x.ac, x.po)) (l₂ := r.map (fun x => (x.ac, x.po)))).nodup_iff.1 ho
  rw [List.nodup_cons] at hp
  exact not_cov_i h rfl (q := (x.ac, x.po)) (by unfold insL; rw [e]; simp) hp.1
theorem Fair.lessO {g : Gr} (h : Fair g) {x : GPort} {r : List GPort} (e : g.outs = x :: r) : (findG { g with outs := r }).1 = 87 := by
  refine (h.sub (List.Sublist.refl g.edges) (List.Sublist.refl g.ins) (ol := r) (by rw [e]; exact List.sublist_cons_self _ _)).find.2 ?_
  have ho := h.od
  unfold outsL at ho
  rw [e, List.map_cons] at ho
  have hp := (List.perm_middle (l₁ := g.edges.map (fun x => (x.f, x.fp))) (a := (x.ac, x.po)) (l₂ := r.map (fun x => (x.ac, x.po)))).nodup_iff.1 ho
  rw [List.nodup_cons] at hp
  exact not_cov_o h rfl (q := (x.ac, x.po)) (by unfold outsL; rw [e]; simp) hp.1
theorem GLen.rev {g : Gr} (h : GLen g) : GLen (revG g) := by
  refine ⟨h.a, by simpa [revG] using h.e, by simpa [revG] using h.i, by simpa [revG] using h.o, h.ax, fun x hx => h.ex x (by simpa [revG] using hx), fun x hx => h.ix x (by simpa [revG] using hx), fun x hx => h.ox x (by simpa [revG] using hx), h.n⟩
end Go.Proofs.Ytpljnapglbmdlaa
