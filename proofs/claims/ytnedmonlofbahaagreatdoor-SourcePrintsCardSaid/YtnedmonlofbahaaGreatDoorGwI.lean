/-
  GtC: what is wanted of them.
-/
import Derived.Test.YtnedmonlofbahaaGreatDoorGwH
namespace Go.Proofs.YtnedmonlofbahaaGreatDoor
open Go Go.RowKit Go.Joins
set_option linter.all false
theorem qo (g:Gr):∀x∈df g,1<=x.kind∧x.kind<=4:=by
 intro x hx;unfold df at hx;simp only[List.mem_append,List.mem_map] at hx;rcases hx with((⟨y,_,rfl⟩|⟨y,_,rfl⟩)|⟨y,_,rfl⟩)|⟨y,_,rfl⟩<;>simp[bV,bz,eJ,dQ]
theorem nS (t:Int):(ft t).1.size<=20:=by
 unfold ft;split
 ·rename_i h;rcases fE h.1 h.2 with rfl|rfl|rfl|rfl|rfl|rfl|rfl|rfl|rfl|rfl|rfl<;>decide+kernel
 ·decide
theorem ci {s:ByteArray} (h:aM s=true):s.size<=16:=by
 rw[<-cj];unfold aM pL at h;cases hb:aC s with
 |nil=>simp
 |cons b r=>
  rw[hb] at h;simp only[Bool.and_eq_true,decide_eq_true_eq] at h;simp only[List.length_cons];omega
theorem oA {s:Sk} {g:Gr} (h:s.bare=da g) (hf:Fair g) (hw:GFew g):SLen s∧(∀x∈s.items,1<=x.kind∧x.kind<=4)∧s.items.length<=160∧(∀x∈s.items,x.xs.length<=1048576):=by
 have hi:s.items.map SIt.bare=df g:=congrArg Sk.items h;have hn:s.name=g.name:=congrArg Sk.name h;have hl:s.items.length=g.acts.length+g.edges.length+g.ins.length+g.outs.length:=by
  have:=congrArg List.length hi;simp only[df,List.length_map,List.length_append] at this;omega
 have hnm:∀a,(ey g a).size<=16:=fun a=>by
  unfold ey;by_cases ha:a.toNat<g.acts.length
  ·rw[List.getD_eq_getElem?_getD,List.getElem?_eq_getElem ha];exact ci (hf.nms _ (List.mem_append.2 (.inl (List.mem_map.2 ⟨_,List.getElem_mem ha,rfl⟩))))
  ·rw[List.getD_eq_getElem?_getD,List.getElem?_eq_none (by omega)];decide
 have hx:∀x∈df g,x.xs.length<=1048576∧x.name.size<=16∧x.tag.size<=20∧x.fn.size<=16∧x.tn.size<=16:=by
  intro x hx;unfold df at hx;simp only[List.mem_append,List.mem_map] at hx;have h0:(⟨#[]⟩:ByteArray).size<=16:=by decide
  have h1:(⟨#[]⟩:ByteArray).size<=20:=by decide
  rcases hx with((⟨y,hy,rfl⟩|⟨y,hy,rfl⟩)|⟨y,hy,rfl⟩)|⟨y,hy,rfl⟩
  ·exact⟨hw.ax y hy,ci (hf.nms _ (List.mem_append.2 (.inl (List.mem_map.2 ⟨_,hy,rfl⟩)))),nS _,h0,h0⟩
  ·exact⟨hw.ex y hy,h0,h1,hnm _,hnm _⟩
  ·exact⟨by simp[eJ],ci (hf.nms _ (List.mem_append.2 (.inr (List.mem_append.2 (.inl (List.mem_map.2 ⟨_,hy,rfl⟩)))))),h1,h0,hnm _⟩
  ·exact⟨by simp[dQ],ci (hf.nms _ (List.mem_append.2 (.inr (List.mem_append.2 (.inr (List.mem_map.2 ⟨_,hy,rfl⟩)))))),h1,hnm _,h0⟩
 have hb:∀x∈s.items,x.bare∈df g:=fun x hx=>hi▸List.mem_map_of_mem hx
 have:=hf.na;have:=hf.ne;have:=hf.ni;have:=hf.no;refine⟨⟨by omega,by rw[hn];have:=ci hf.nm;omega,fun x hm=>?_⟩,fun x hm=>by have:=qo g _ (hb x hm);exact this,by omega,fun x hm=>(hx _ (hb x hm)).1⟩;obtain⟨a,b,c,d,e⟩:=hx _ (hb x hm);have a':x.xs.length<=1048576:=a;have b':x.name.size<=16:=b;have c':x.tag.size<=20:=c;have d':x.fn.size<=16:=d;have e':x.tn.size<=16:=e;omega
theorem rD {q g:Gr} (h:∀x∈g.acts,0<=x.tag∧x.tag<=255) (e:q.bare=g.bare):∀x∈q.acts,0<=x.tag∧x.tag<=255:=fun x hx=>by
 have h2:q.acts.map GAct.bare=g.acts.map GAct.bare:=congrArg Gr.acts e;have hm:x.bare∈g.acts.map GAct.bare:=h2▸List.mem_map_of_mem hx;obtain⟨y,hy,he⟩:=List.mem_map.1 hm;have e1:y.tag=x.tag:=by have:=congrArg GAct.tag he;exact this
 rw[<-e1];exact h y hy
end Go.Proofs.YtnedmonlofbahaaGreatDoor
