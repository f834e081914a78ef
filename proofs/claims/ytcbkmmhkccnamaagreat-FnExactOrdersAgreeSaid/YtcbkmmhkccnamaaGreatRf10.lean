/- Terms for s6 program's functions, and nj they are right: part 10 of 10. -/
import Derived.Test.YtcbkmmhkccnamaaGreatRf9
open Bool renaming and_eq_true → Zbd, false_eq_true → Zbg
open List renaming length_append → Zbi, replicate → Zbq, length_take → Zb1, length_replicate → Acj, mem_map_of_mem → Acx, eq_of_mem_replicate → Bc4, getElem_inj → Ccq, getElem_take → Ccy
set_option linter.unusedSimpArgs false
set_option linter.unusedVariables false
set_option linter.unnecessarySimpa false
set_option linter.unusedSectionVars false
namespace Go.Proofs.YtcbkmmhkccnamaaGreat.Rf
theorem Zai {n:Int}{w:bR}(h:rowOk n w=true)(h3:w.state=3):rowOk n (setRow w)=true:=by
 unfold rowOk at h ⊢;unfold setRow;rw[h3]at h ⊢;simp only[Zbd]at h ⊢;have e:((3:Int)==0)=false:=rfl;rw[e]at h ⊢;simp only[Zbg,if_false,Zbd]at h ⊢;exact⟨⟨⟨rfl,rfl⟩,rfl⟩,h.2⟩
theorem Ib6 {n:Int}{t acc:aM}(ht:bG t=true)(hN:t.n=n)(h:bG acc=true/\acc.n=n){x:List Int}(hx:x∈bU t.rows):bG (Hb8 t acc x)=true/\(Hb8 t acc x).n=n:=by
 obtain⟨-,-,-,xi,xs⟩:=iI ht hx;have hw:=mW ht xi;refine⟨Saa h.1 (by rw[h.2,<- hN];exact xi) (by rw[h.2,<- hN];exact Zai hw xs),h.2⟩
theorem Nb9 {n:Int}(hg:dG n=true):bG ⟨n,Zbq n.toNat []⟩=true:=by
 have hn:=aY hg;unfold bG;simp only[Zbd,Acj,List.all_eq_true,beq_iff_eq];refine⟨⟨hg,by omega⟩,fun l hl=>?_⟩;rw[Bc4 hl];simp
theorem Zaj {t:Aa9}(h:vI t=true):bG (Zak t)=true/\(Zak t).n=t.reps.length:=by
 have hg:=oJ h;refine Caz (P:=fun s=>bG s=true/\s.n=t.reps.length) (fun s R hR hs=>?_) ⟨Nb9 hg,rfl⟩;obtain⟨k,hk,rfl⟩:=List.getElem_of_mem hR;obtain⟨h1,h2,-⟩:=jM h hk;rw[bC hk]at h1 h2;exact Caz (P:=fun s=>bG s=true/\s.n=t.reps.length) (fun s x hx hs=>Ib6 h1 h2 hs hx) hs
theorem Xad {t:aM}(ht:bG t=true):(pU t).Nodup:=by
 unfold pU List.Nodup;rw[List.pairwise_map];have q0:(sS t).Nodup:=wJ (Bbc t) _;refine List.Pairwise.imp_of_mem (fun {a b} ha hb pz e=>pz ?_) q0;have ha':=Ha9 ha;have di:=Ha9 hb;obtain⟨i,rfl⟩:∃ k:Nat,a=(k:Int):=⟨a.toNat,by unfold InB at ha';omega⟩;obtain⟨j,rfl⟩:∃ k:Nat,b=(k:Int):=⟨b.toNat,by unfold InB at di;omega⟩;rw[bC (aH.1 ha'),bC (aH.1 di)]at e;have:=(Ccq (Aam (Aan t))).1 e;omega
theorem uB {t:aM}(ht:bG t=true){n:Int}(hn:t.n=n):qF n (pU t)=true:=by
 unfold qF;refine jV.2 fun i hi=>?_
 obtain⟨⟨h2,hx⟩,-⟩:=dA ht (Cab (at_mem hi));unfold Qar;rw[hn]at hx;simp only[Zbd,beq_iff_eq,Bool.not_eq_true',<- Bool.not_eq_true,List.any_eq_true,decide_eq_true_eq,not_exists,not_and];refine⟨⟨by omega,hx⟩,fun y hy e=>?_⟩;subst e;obtain⟨j,hj,e⟩:=List.mem_iff_getElem.1 hy;rw[Zb1]at hj;rw[Ccy,bC hi]at e;have:=(Ccq (Xad ht)).1 e;omega
noncomputable def Jbp (t:Aa9)(i:Nat):Bool:=(t.reps.take i).all fun b=>Xac (Zak t) (pU (atI t.reps (i:Int)).table) (pU b.table)
noncomputable def Za0 (t:Aa9):Bool:=sU (Jbp t) t.reps.length
noncomputable def Xab (t:Aa9):Bool×Bool:=if vI t&&Kbo t then (Za0 t,true) else (false,false)
section
variable {T:Nat->Ent} {β:Type}
end
def Wbo (r:bR)(k no:Int):Bool:=(r.state==3)&&decide (no<=atI r.attr.deps k)
def Yb2 (t:aM)(k no:Int):Bool:=decide (no<=((atI t.rows k).length:Int))||t.rows.any fun l=>l.any fun r=>Wbo r k no
def Sbx (x:Aa9)(k:Int):aM:=(atI x.reps k).table
def Za2 (x:Aa9)(ms:List Int)(y:List Int):Bool:=ms.any fun k=>!((fM (Sbx x k) (atI y 0) (atI y 1)).state==3)
def Sbi (x:Aa9)(ms:List Int)(k no:Int):Bool:=ms.any fun m=>Yb2 (Sbx x m) k no
def Rbp (x:Aa9)(ms:List Int):List (List Int):=(uP x.reps.length).filter fun y=>Sbi x ms (atI y 0) (atI y 1)&&Za2 x ms y
theorem Fbz {x:Aa9}{ms:List Int}{y:List Int}:y∈Rbp x ms↔fB x.reps.length y/\Sbi x ms (atI y 0) (atI y 1)=true/\Za2 x ms y=true:=by
 unfold Rbp;rw[List.mem_filter,Aa8,Zbd]
theorem Za1 (x:Aa9)(ms:List Int):pQ (Rbp x ms):=List.Pairwise.filter _ (Fa0 _)
structure Cov (n:Nat) (ms:List Int) (S:Int->Int->Prop):Prop where
 len:ms.length=n
 rng:∀ x∈ms,0<=x/\x<=6
 iff:∀ j no:Int,0<=j->j<n->1<=no->(no<=atI ms j↔S j no)
theorem Cov.congr {n:Nat}{ms:List Int}{S S':Int->Int->Prop}(h:Cov n ms S)(hs:∀ j no:Int,0<=j->j<n->1<=no->(S j no↔S' j no)):Cov n ms S' :=
 ⟨h.len,h.rng,fun j no h0 h1 h2=>(h.iff j no h0 h1 h2).trans (hs j no h0 h1 h2)⟩
theorem Cov.start (n:Nat):Cov n (Zbq n 0) fun _ _=>False:=by
 refine⟨Acj,fun x hx=>by rw[Bc4 hx];omega,fun j no h0 h1 h2=>?_⟩
 have:atI (Zbq n (0:Int)) j=0:=by
  obtain⟨k,rfl⟩:∃ k:Nat,j=(k:Int):=⟨j.toNat,by omega⟩;rw[bC (by rw[Acj];omega),List.getElem_replicate]
 rw[this];constructor
 ·intro h;omega
 ·exact False.elim
structure Obr (x:Aa9) (ms:List Int) (S:List Int->Prop) (out:List (List Int)):Prop where
 nodup:out.Nodup
 iff:∀ y,y∈out↔S y/\Za2 x ms y=true
 inst:∀ y∈out,fB x.reps.length y
theorem Obr.done {x:Aa9}{ms:List Int}{out:List (List Int)}(h:Obr x ms (fun y=>fB x.reps.length y/\Sbi x ms (atI y 0) (atI y 1)=true) out):(lL id (out.map prL)).map toL=Rbp x ms:=by
 obtain⟨h1,h2⟩:=Hax (l:=out) (fun y hy=>(h.inst y hy).1) h.nodup;refine vV h1 (Za1 x ms) fun y=>?_
 rw[h2,h.iff,Fbz,and_assoc]
theorem Obr.step {x:Aa9}{ms:List Int}{S:List Int->Prop}{out:List (List Int)}(h:Obr x ms S out){y:List Int}(hy:fB x.reps.length y) :
  Obr x ms (fun z=>S z\/z=y) (if Za2 x ms y&&!(out.any fun z=>decide (y=z)) then out++[y] else out):=by
 cases ho:Za2 x ms y with
 | false =>
  simp only[Bool.false_and,Zbg,if_false];refine⟨h.nodup,fun z=>?_,h.inst⟩;rw[h.iff];constructor
  ·rintro⟨h1,h2⟩;exact⟨.inl h1,h2⟩
  ·rintro⟨h1|rfl,h2⟩
   ·exact⟨h1,h2⟩
   ·rw[ho]at h2;cases h2
 | true =>
  rw[Bool.true_and]
  cases ha:out.any fun z=>decide (y=z) with
  | true =>
   simp only[Bool.not_true,Zbg,if_false];have hm:=Eay.1 ha;refine⟨h.nodup,fun z=>?_,h.inst⟩;rw[h.iff];constructor
   ·rintro⟨h1,h2⟩;exact⟨.inl h1,h2⟩
   ·rintro⟨h1|rfl,h2⟩
    ·exact⟨h1,h2⟩
    ·exact (h.iff z).1 hm
  | false =>
   simp only[Bool.not_false,if_true];have hm:y∉out:=fun hc=>by rw[Eay.2 hc]at ha;cases ha
   refine⟨rX h.nodup hm,fun z=>?_,fun z hz=>?_⟩
   ·rw[List.mem_append,h.iff,List.mem_singleton]
    constructor
    ·rintro (⟨h1,h2⟩|rfl)
     ·exact⟨.inl h1,h2⟩
     ·exact⟨.inr rfl,ho⟩
    ·rintro⟨h1|rfl,h2⟩
     ·exact .inl ⟨h1,h2⟩
     ·exact .inr rfl
   ·rcases List.mem_append.1 hz with hz|hz
    ·exact h.inst z hz
    ·rw[List.mem_singleton.1 hz];exact hy
def Bef {α:Type}(l:List α)(x y:α):Prop:=∃ A B,l=A++B/\x∈A/\y∈B
theorem Bef.idx {α:Type}{l:List α}{x y:α}:Bef l x y↔∃ i j,∃ hi:i<l.length,∃ hj:j<l.length,i<j/\l[i]=x/\l[j]=y:=by
 constructor
 ·rintro⟨A,B,rfl,hx,hy⟩
  obtain⟨i,hi,rfl⟩:=List.mem_iff_getElem.1 hx;obtain⟨j,hj,rfl⟩:=List.mem_iff_getElem.1 hy;refine⟨i,A.length+j,by rw[Zbi];omega,by rw[Zbi];omega,by omega,?_,?_⟩
  ·rw[List.getElem_append_left hi]
  ·rw[List.getElem_append_right (by omega)]
   simp
 ·rintro⟨i,j,hi,hj,sh,rfl,rfl⟩
  refine⟨l.take (i+1),l.drop (i+1),(List.take_append_drop _ _).symm,?_,?_⟩
  ·exact List.mem_iff_getElem.2 ⟨i,by rw[Zb1];omega,by rw[Ccy]⟩
  ·exact List.mem_iff_getElem.2 ⟨j-(i+1),by rw[List.length_drop];omega,by rw[List.getElem_drop];congr 1;omega⟩
theorem Bef.map {α β:Type}{l:List α}{f:α->β}{x y:α}(h:Bef l x y):Bef (l.map f) (f x) (f y):=by
 obtain⟨A,B,rfl,hx,hy⟩:=h;exact⟨A.map f,B.map f,by rw[List.map_append],Acx hx,Acx hy⟩
def Sbs (G:List (List Int))(out:List (List Int)):Prop:=∀ A C B,out=A++C::B->∀ j∈C,∀ k,Rch G j k->(∃ D∈A,k∈D)\/k∈C
theorem Sbs.step {G:List (List Int)}(hg:GOk G){s:CSt}(h:Ja4 G s)(hr:s.rest≠[])(hp:Sbs G s.out):Sbs G (cO G s).out:=by
 obtain⟨h1,h2,h3,-⟩:=h.top hg hr;have hCr:atI s.rest (Hae G s:Int)∈s.rest:=at_mem h1;unfold cO;dsimp only;generalize atI s.rest (Hae G s:Int)=C0 at *;intro A C B e j hj k hk
 rcases List.eq_nil_or_concat B with hB|⟨B',b,hB⟩
 ·subst hB
  obtain⟨e1,e2⟩:=List.append_inj' e rfl;rw[List.cons.injEq]at e2;obtain⟨rfl,-⟩:=e2;subst e1;obtain⟨a,ha,he,qx⟩:=jB (h.sub hCr);have s5:InB G (atI C0 0):=by rw[qx];exact ha
  have hja:=(lV hg ha).1 (by rw[<- he];exact hj);exact (Caw hg s5).1 h3 k (by rw[qx];exact hja.1.trans hk)
 ·rw[List.concat_eq_append]at hB
  subst hB;have e':s.out++[C0]=(A++C::B')++[b]:=by rw[e];simp
  obtain⟨e1,-⟩:=List.append_inj' e' rfl;exact hp A C B' e1 j hj k hk
def Rbu (t:aM)(x y:List Int):Prop:=Fa1 t y x/\(¬ Fa1 t x y\/Dar t x<Dar t y)
theorem Rbu.total {t:aM}(ht:bG t=true){x y:List Int}(hx:x∈aI t)(hy:y∈aI t)(cJ:x≠y)(h:Fa1 t x y\/Fa1 t y x):Rbu t x y\/Rbu t y x:=by
 unfold Rbu;by_cases h1:Fa1 t x y
 ·by_cases h2:Fa1 t y x
  ·rcases Int.lt_trichotomy (Dar t x) (Dar t y) with h3|h3|h3
   ·exact .inl ⟨h2,.inr h3⟩
   ·exact absurd (Van ht (dA ht hx).1 (dA ht hy).1 h3) cJ
   ·exact .inr ⟨h1,.inr h3⟩
  ·exact .inr ⟨h1,.inl h2⟩
 ·rcases h with h|h
  ·exact absurd h h1
  ·exact .inl ⟨h,.inl h1⟩
end Go.Proofs.YtcbkmmhkccnamaaGreat.Rf
