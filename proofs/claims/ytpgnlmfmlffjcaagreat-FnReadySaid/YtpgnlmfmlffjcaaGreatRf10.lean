/- Terms for the program's functions, and that they are right: part 10 of 10. -/
import Derived.Test.YtpgnlmfmlffjcaaGreatRf9
open Bool renaming and_eq_true → Sbu
open List renaming replicate → Sb1, getD_eq_getElem?_getD → Sb4, length_map → Sb5, mem_singleton → Sb9, mem_range → Ub2, getElem_map → Vbc
open Nat renaming le_refl → Sb7
set_option linter.unusedSimpArgs false
set_option linter.unusedVariables false
set_option linter.unnecessarySimpa false
set_option linter.unusedSectionVars false
namespace Go.Proofs.YtpgnlmfmlffjcaaGreat.Rf
set_option linter.unusedVariables false
set_option linter.unusedSimpArgs false
theorem Vai (l:List aY)(k:Int)(m:Nat):vP (dV l k m):=by
 unfold vP dV
 rw[List.pairwise_flatMap]
 refine⟨fun i hi=>by split<;>simp,?_⟩
 refine List.pairwise_lt_range.imp fun {a b} hab=>?_
 intro x hx y hy
 split at hx
 ·split at hy
  ·rw[Sb9]at hx hy
   subst hx;subst hy
   rw[sO]
   simp[atI]
   omega
  ·cases hy
 ·cases hx
theorem Vaj (rows:List (List aY)):vP (aU rows):=by
 unfold vP aU uG
 rw[List.pairwise_flatMap]
 refine⟨fun k hk=>Vai _ _ _,?_⟩
 refine List.pairwise_lt_range.imp fun {a b} hab=>?_
 intro x hx y hy
 obtain⟨i,hi,rfl⟩:=yE hx
 obtain⟨j,hj,rfl⟩:=yE hy
 rw[sO]
 simp[atI]
 omega
theorem Ibh {t:aM}(ht:aV t=true){x:List Int}:x∈aU t.rows↔dM t.n x/\pJ t x=true:=by
 refine⟨nZ ht,?_⟩
 rintro⟨⟨h2,hi⟩,hc⟩
 match x,h2 with
 | [a, b], _ =>
  have hi':inst t.n a b=true:=hi
  obtain⟨r1,r2,r3,r4⟩:=bE hi'
  have hb:=bN ht hi'
  have hc':((cK t a b).state==3)=true:=hc
  unfold cK at hc'
  split at hc'
  ·rename_i hle
   unfold aU uG dV
   simp only[List.mem_flatMap,Ub2]
   refine⟨a.toNat,hb.lt,(b-1).toNat,?_,?_⟩
   ·rw[show ((a.toNat:Nat):Int)=a by omega];omega
   ·rw[show ((a.toNat:Nat):Int)=a by omega,show (((b-1).toNat:Nat):Int)=b-1 by omega,if_pos hc',show b-1+1=b by omega]
    exact List.mem_singleton.2 rfl
  ·cases hc'
theorem Lab (t:aM):vP (aF t):=by
 unfold aF vP
 exact List.Pairwise.filter _ (Vaj t.rows)
theorem xD {t:aM}{x:List Int}(h:x∈aF t):x∈aU t.rows:=by
 unfold aF at h
 exact (List.mem_filter.1 h).1
theorem eO {t:aM}(ht:aV t=true):(aF t).length<=30:=by
 unfold aF
 exact Nat.le_trans (List.length_filter_le _ _) (nJ ht)
theorem bP {t:aM}(ht:aV t=true){x:List Int}(h:x∈aF t):dM t.n x/\(cK t (atI x 0) (atI x 1)).state=3/\x=[atI x 0,atI x 1]/\InB x 0/\InB x 1:=by
 obtain⟨a,b,h1,h2,h3⟩:=eQ ht (xD h)
 exact⟨⟨h1,h2⟩,h3,(qU h1).symm,a,b⟩
structure Xa2 (t:aM) (l:List (List Int)) (u:aM):Prop where
 ok:aV u=true
 n:u.n=t.n
 row:∀ rep no,inst t.n rep no=true->cK u rep no=if [rep,no]∈l then cK t rep no else row0 t.n
theorem Xa2.com {t u:aM}(ht:aV t=true)(h:Xa2 t (aF t) u):aU u.rows=aF t:=by
 refine Fat (Vaj _) (Lab t) fun x=>?_
 rw[Ibh h.ok,h.n]
 constructor
 ·rintro⟨⟨h2,hi⟩,hc⟩
  unfold pJ at hc
  rw[h.row _ _ hi]at hc
  split at hc
  ·rename_i hm
   rw[<- qU h2]
   exact hm
  ·cases hc
 ·intro hx
  obtain⟨hi,hs,he,-⟩:=bP ht hx
  refine⟨hi,?_⟩
  unfold pJ
  rw[h.row _ _ hi.2,if_pos (by rw[<- he];exact hx),hs]
  rfl
noncomputable def gM (t:aM):List (List Int):=(List.range (aF t).length).map fun i:Nat=>sS (aF t) (cK t (atI (atI (aF t) (i:Int)) 0) (atI (atI (aF t) (i:Int)) 1)).attr.deps (atI (aF t) (i:Int)) (aF t).length
theorem Xa2.graph {t u:aM}(ht:aV t=true)(h:Xa2 t (aF t) u):sI u=gM t:=by
 unfold sI iL gM
 rw[h.com ht]
 refine List.map_congr_left fun i hi=>?_
 rw[Ub2]at hi
 have hm:=at_mem hi
 obtain⟨hx,hs,he,-⟩:=bP ht hm
 rw[h.row _ _ hx.2,if_pos (by rw[<- he];exact hm)]
theorem Aah (t:aM):(gM t).length=(aF t).length:=by simp[gM]
theorem La5 {t:aM}{r:List Int}(h:r∈gM t):r.length<=(aF t).length/\∀ x∈r,0<=x/\x<(aF t).length:=by
 unfold gM at h
 obtain⟨i,hi,rfl⟩:=List.mem_map.1 h
 refine⟨xS ..,fun x hx=>?_⟩
 obtain⟨k,hk,-,rfl⟩:=La0.1 hx
 omega
theorem Qa0 (t:aM):GOk (gM t):=fun r hr x hx=>by
 have:=(La5 hr).2 x hx
 unfold InB
 rw[Aah]
 exact this
def qO (t:aM)(x:List Int):Int:=100*(cK t (atI x 0) (atI x 1)).attr.seq+10*atI x 0+atI x 1
noncomputable def qN (t:aM):List Int:=(aF t).map (qO t)
theorem xM (t:aM):(qN t).length=(aF t).length:=by simp[qN]
theorem Db1 {n:Int}{r:aY}(h:rowOk n r=true):0<=r.attr.seq/\r.attr.seq<=999:=by
 unfold rowOk at h
 simp only[Sbu]at h
 obtain⟨-,h⟩:=h
 split at h
 ·simp only[Sbu,decide_eq_true_eq]at h
  rw[h.2]
  unfold none0
  simp
 ·simp only[Sbu]at h
  have:=h.2
  unfold nL inR at this
  simp only[Sbu,decide_eq_true_eq]at this
  omega
theorem tV {t:aM}(ht:aV t=true){x:List Int}(h:dM t.n x):0<=(cK t (atI x 0) (atI x 1)).attr.seq/\(cK t (atI x 0) (atI x 1)).attr.seq<=999/\0<=atI x 0/\atI x 0<=4/\1<=atI x 1/\atI x 1<=6:=by
 have h1:=Db1 (jX ht h.2)
 have h2:=bE h.2
 have h3:=aT (aQ ht)
 omega
theorem Hbs {t:aM}(ht:aV t=true){x:List Int}(h:dM t.n x):0<=qO t x/\qO t x<=1000000000:=by
 have:=tV ht h
 unfold qO
 omega
theorem Hbt {t:aM}(ht:aV t=true){x y:List Int}(hx:dM t.n x)(hy:dM t.n y)(h:qO t x=qO t y):x=y:=by
 have h1:=tV ht hx
 have h2:=tV ht hy
 unfold qO at h
 rw[<- qU hx.1,<- qU hy.1]
 unfold toL prL
 dsimp only
 have e1:atI x 0=atI y 0:=by omega
 have e2:atI x 1=atI y 1:=by omega
 rw[e1,e2]
theorem Aby {t:aM}{j:Int}(h:InB (aF t) j):atI (qN t) j=qO t (atI (aF t) j):=by
 obtain⟨k,rfl⟩:∃ k:Nat,j=(k:Int):=⟨j.toNat,by unfold InB at h;omega⟩
 have hk:=aG.1 h
 unfold qN
 rw[bC (by rw[Sb5];exact hk),Vbc,bC hk]
theorem xN {t:aM}(ht:aV t=true):∀ x y,InB (gM t) x->InB (gM t) y->atI (qN t) x=atI (qN t) y->x=y:=by
 intro x y hx hy h
 have hx':InB (aF t) x:=by unfold InB at hx ⊢;rw[Aah]at hx;exact hx
 have hy':InB (aF t) y:=by unfold InB at hy ⊢;rw[Aah]at hy;exact hy
 rw[Aby hx',Aby hy']at h
 have e:=Hbt ht (bP ht (bL hx')).1 (bP ht (bL hy')).1 h
 obtain⟨i,rfl⟩:∃ k:Nat,x=(k:Int):=⟨x.toNat,by unfold InB at hx;omega⟩
 obtain⟨j,rfl⟩:∃ k:Nat,y=(k:Int):=⟨y.toNat,by unfold InB at hy;omega⟩
 rw[bC (aG.1 hx'),bC (aG.1 hy')]at e
 have:=(List.getElem_inj (Dax (Lab t))).1 e
 omega
theorem Las {t:aM}(ht:aV t=true):∀ k∈qN t,0<=k/\k<=1000000000:=by
 intro k hk
 unfold qN at hk
 obtain⟨x,hx,rfl⟩:=List.mem_map.1 hk
 exact Hbs ht (bP ht hx).1
noncomputable def fQ (t:aM):List Int:=jS (gM t) (qN t)
noncomputable def fF (t:aM):List (List Int):=(fQ t).map fun j=>atI (aF t) j
noncomputable def uT (t:aM):List (List Int)×Bool:=if aV t then (fF t,true) else ([],false)
theorem Da4 {t:aM}{j:Int}(h:j∈fQ t):InB (aF t) j:=by
 have:=(Har (Qa0 t)).1 h
 unfold InB at this ⊢
 rw[Aah]at this
 exact this
theorem zB (t:aM):(fQ t).length<=(aF t).length:=by
 have:=Oaw (Qa0 t) (qN t)
 rw[Aah]at this
 exact this
theorem rM (t:aM):(fF t).length<=(aF t).length:=by unfold fF;rw[Sb5];exact zB t
theorem vZ {t:aM}{x:List Int}(h:x∈fF t):x∈aF t:=by
 unfold fF at h
 obtain⟨j,hj,rfl⟩:=List.mem_map.1 h
 exact bL (Da4 hj)
theorem Kaf {n:Int}{l:List aY}{no:Int}(h:no<=l.length):ext n l no=l:=by
 unfold ext
 rw[show (no-l.length).toNat=0 by omega,List.replicate_zero,List.append_nil]
def Ibe (rd:List (List Int))(s:aM)(k:Nat)(i:Nat):aM:=if decide (iQ rd [(k:Int),(i:Int)+1]<0) then Daa s (k:Int) ((i:Int)+1) (row0 s.n) else s
def Va0 (rd:List (List Int))(k:Nat):Nat->aM->aM
 |0,s=>s
 |m+1,s=>Ibe rd (Va0 rd k m s) k m
def yK (rd:List (List Int))(t:aM):Nat->aM
 |0=>t
 |k+1=>Va0 rd k (atI t.rows (k:Int)).length (yK rd t k)
theorem Ua1 {rd:List (List Int)}{x:List Int}:iQ rd x<0↔x∉rd:=by
 have h:=bJ (fun y=>decide (x=y)) rd
 constructor
 ·intro h1 hm
  have:rd.any (fun y=>decide (x=y))=true:=List.any_eq_true.2 ⟨x,hm,by simp⟩
  rw[this,decide_eq_true_eq]at h
  unfold iQ at h1
  omega
 ·intro hm
  have:rd.any (fun y=>decide (x=y))=false:=by
   rw[List.any_eq_false]
   intro y hy e
   exact hm (by rw[of_decide_eq_true e];exact hy)
  rw[this,decide_eq_false_iff_not]at h
  unfold iQ
  omega
structure Va2 (rd:List (List Int)) (t s:aM) (k m:Nat):Prop where
 ok:aV s=true
 n:s.n=t.n
 len:∀ j:Nat,(atI s.rows (j:Int)).length=(atI t.rows (j:Int)).length
 row:∀ rep no,inst t.n rep no=true->cK s rep no=if (rep<k\/(rep=k/\no<=m))/\[rep,no]∉rd then row0 t.n else cK t rep no
theorem Va2.rowsLen {rd:List (List Int)}{t s:aM}{k m:Nat}(ht:aV t=true)(h:Va2 rd t s k m):s.rows.length=t.rows.length:=by
 have h1:=bU ht
 have h2:=bU h.ok
 have h3:=h.n
 omega
theorem Va2.stepS {rd:List (List Int)}{t s:aM}{k m:Nat}(ht:aV t=true)(h:Va2 rd t s k m)(hk:k<t.rows.length)(hm:m<(atI t.rows (k:Int)).length):Va2 rd t (Ibe rd s k m) k (m+1):=by
 have hlen:=bU ht
 have h6:=(bY ht (at_mem hk)).1
 have hi:inst t.n (k:Int) ((m:Int)+1)=true:=by
  unfold inst inR
  simp only[Sbu,decide_eq_true_eq]
  omega
 have hi':inst s.n (k:Int) ((m:Int)+1)=true:=by rw[h.n];exact hi
 unfold Ibe
 cases hf:decide (iQ rd [(k:Int),(m:Int)+1]<0)
 ·have hin:[(k:Int),(m:Int)+1]∈rd:=by
   rw[decide_eq_false_iff_not,Ua1]at hf
   exact Classical.not_not.1 hf
  refine⟨h.ok,h.n,h.len,fun rep no hr=>?_⟩
  simp only[Bool.false_eq_true,if_false]
  rw[h.row rep no hr]
  have h0:=bE hr
  by_cases e:rep=(k:Int)/\no=(m:Int)+1
  ·obtain⟨e1,e2⟩:=e
   subst e1;subst e2
   rw[if_neg (fun hh=>hh.2 hin),if_neg (fun hh=>hh.2 hin)]
  ·have:(rep<(k:Int)\/rep=(k:Int)/\no<=(m:Int))↔(rep<(k:Int)\/rep=(k:Int)/\no<=((m+1:Nat):Int)):=by omega
   simp only[this]
 ·have hni:[(k:Int),(m:Int)+1]∉rd:=Ua1.1 (of_decide_eq_true hf)
  simp only[if_true]
  refine⟨Dbd h.ok hi' (by rw[h.n];exact Db2 (aQ ht)),by unfold Daa;exact h.n,fun j=>?_,fun rep no hr=>?_⟩
  ·have hkl:InB s.rows (k:Int):=aG.2 (by rw[h.rowsLen ht];exact hk)
   unfold Daa
   dsimp only
   by_cases e:j=k
   ·subst e
    rw[wY hkl,jU,Kaf (by rw[h.len];omega),h.len]
   ·rw[wZ (by omega) (by omega) (by omega),h.len]
  ·rw[Saa h.ok hi' (by rw[h.n];exact hr),h.row rep no hr,h.n]
   have h0:=bE hr
   by_cases e:rep=(k:Int)/\no=(m:Int)+1
   ·obtain⟨e1,e2⟩:=e
    subst e1;subst e2
    rw[if_pos ⟨rfl,rfl⟩,if_pos ⟨.inr ⟨rfl,by omega⟩,hni⟩]
   ·rw[if_neg e]
    have:(rep<(k:Int)\/rep=(k:Int)/\no<=(m:Int))↔(rep<(k:Int)\/rep=(k:Int)/\no<=((m+1:Nat):Int)):=by omega
    simp only[this]
theorem Va2.stepN {rd:List (List Int)}{t s:aM}{k:Nat}(ht:aV t=true)(h:Va2 rd t s k 0)(hk:k<t.rows.length):∀ m,m<=(atI t.rows (k:Int)).length->Va2 rd t (Va0 rd k m s) k m
 |0,_=>h
 |m+1,hm=>(Va2.stepN ht h hk m (by omega)).stepS ht hk (by omega)
theorem Va2.all {rd:List (List Int)}{t:aM}(ht:aV t=true)(hrd:∀ x∈rd,x∈aU t.rows):∀ k,k<=t.rows.length->Va2 rd t (yK rd t k) k 0
 | 0, _ => by
  refine⟨ht,rfl,fun _=>rfl,fun rep no hr=>?_⟩
  have h0:=bE hr
  rw[if_neg (by omega)]
  rfl
 | k + 1, hk => by
  have h:=(Va2.all ht hrd k (by omega)).stepN ht (by omega) (atI t.rows (k:Int)).length (Sb7 _)
  refine⟨h.ok,h.n,h.len,fun rep no hr=>?_⟩
  show cK (Va0 rd k _ (yK rd t k)) rep no=_
  rw[h.row rep no hr]
  have h0:=bE hr
  by_cases e:rep=(k:Int)/\¬ no<=((atI t.rows (k:Int)).length:Int)
  ·obtain⟨e1,e2⟩:=e
   have er:cK t rep no=row0 t.n:=by
    unfold cK
    rw[e1,if_neg e2]
   rw[er,ite_self,ite_self]
  ·have:(rep<(k:Int)\/rep=(k:Int)/\no<=((atI t.rows (k:Int)).length:Int))↔(rep<((k+1:Nat):Int)\/rep=((k+1:Nat):Int)/\no<=((0:Nat):Int)):=by omega
   simp only[this]
theorem Rae {t:aM}(ht:aV t=true):Xa2 t (aF t) (yK (aF t) t t.rows.length):=by
 have h:=Va2.all ht (rd:=aF t) (fun x hx=>xD hx) t.rows.length (Sb7 _)
 refine⟨h.ok,h.n,fun rep no hr=>?_⟩
 rw[h.row rep no hr]
 have h0:=bE hr
 have h1:=bU ht
 by_cases e:[rep,no]∈aF t
 ·rw[if_pos e,if_neg (fun hh=>hh.2 e)]
 ·rw[if_neg e,if_pos ⟨.inl (by omega),e⟩]
noncomputable def Jat (t:aM):Nat->aM
 |0=>⟨t.n,Sb1 t.n.toNat []⟩
 |m+1=>Daa (Jat t m) (atI (atI (aF t) (m:Int)) 0) (atI (atI (aF t) (m:Int)) 1) (cK t (atI (atI (aF t) (m:Int)) 0) (atI (atI (aF t) (m:Int)) 1))
theorem Hac {t:aM}(ht:aV t=true):∀ m,m<=(aF t).length->Xa2 t ((aF t).take m) (Jat t m)
 | 0, _ => by
  have hg:=aT (aQ ht)
  refine⟨?_,rfl,fun rep no hr=>?_⟩
  ·unfold Jat aV
   simp only[Sbu,List.length_replicate,List.all_eq_true,beq_iff_eq]
   refine⟨⟨aQ ht,by omega⟩,fun l hl=>?_⟩
   rw[List.eq_of_mem_replicate hl]
   simp
  ·have h0:=bE hr
   rw[if_neg (by simp)]
   unfold Jat cK
   have:atI (Sb1 t.n.toNat ([]:List aY)) rep=[]:=by
    unfold atI
    rw[Sb4,List.getElem?_replicate]
    split<;>rfl
   rw[this,if_neg (by simp only[List.length_nil];omega)]
 | m + 1, hm => by
  have h:=Hac ht m (by omega)
  have hx:=at_mem (show m<(aF t).length by omega)
  obtain⟨hi,hs,he,-⟩:=bP ht hx
  have hi':inst (Jat t m).n (atI (atI (aF t) (m:Int)) 0) (atI (atI (aF t) (m:Int)) 1)=true:=by rw[h.n];exact hi.2
  refine⟨Dbd h.ok hi' (by rw[h.n];exact jX ht hi.2),h.n,fun rep no hr=>?_⟩
  show cK (Daa (Jat t m) _ _ _) rep no=_
  rw[Saa h.ok hi' (by rw[h.n];exact hr),h.row rep no hr]
  rw[<- take_at (show m<(aF t).length by omega)]
  by_cases e:rep=atI (atI (aF t) (m:Int)) 0/\no=atI (atI (aF t) (m:Int)) 1
  ·rw[if_pos e,if_pos (List.mem_append_right _ (by rw[e.1,e.2,<- he];exact List.mem_singleton.2 rfl)),e.1,e.2]
  ·rw[if_neg e]
   have:[rep,no]∈(aF t).take m++[atI (aF t) (m:Int)]↔[rep,no]∈(aF t).take m:=by
    rw[List.mem_append,Sb9]
    refine⟨fun hh=>hh.resolve_right fun e2=>e ?_,.inl⟩
    rw[<- e2]
    exact⟨rfl,rfl⟩
   simp only[this]
theorem Rat {t:aM}(ht:aV t=true):Xa2 t (aF t) (Jat t (aF t).length):=by
 have h:=Hac ht _ (Sb7 (aF t).length)
 rw[List.take_length]at h
 exact h
end Go.Proofs.YtpgnlmfmlffjcaaGreat.Rf

namespace Go.Proofs.YtpgnlmfmlffjcaaGreat.Rf
set_option linter.unusedVariables false
set_option linter.unusedSimpArgs false
noncomputable def Jao (t:aM)(x:List Int):oN:=(cK t (atI x 0) (atI x 1)).cmd
noncomputable def vH (t:aM):List oN:=(fF t).map (Jao t)
theorem Mav (t:aM):(vH t).length=(fF t).length:=by unfold vH;rw[Sb5]
theorem Kag {t:aM}{m:Nat}(h:m<(fF t).length):atI (vH t) (m:Int)=Jao t (atI (fF t) (m:Int)):=by
 unfold vH
 rw[bC (by rw[Sb5];exact h),Vbc,bC h]
theorem Xas {t:aM}(ht:aV t=true){x:List Int}(hx:x∈fF t):kX (Jao t x)=true:=Ka9 (jX ht (bP ht (vZ hx)).1.2)
theorem Ram {t:aM}(ht:aV t=true):∀ c∈vH t,kX c=true:=by
 intro c hc
 unfold vH at hc
 obtain⟨x,hx,rfl⟩:=List.mem_map.1 hc
 exact Xas ht hx
noncomputable def vO (t:aM)(m:Nat):List Int:=(jA (vH t) m).1
noncomputable def Va5 (t:aM):List lT:=(jA (vH t) (fF t).length).2
noncomputable def Lbs (t:aM)(m:Nat):bV:=⟨atI (atI (fF t) (m:Int)) 0,atI (atI (fF t) (m:Int)) 1,Jao t (atI (fF t) (m:Int)),(iD (vO t m) (Jao t (atI (fF t) (m:Int)))).2⟩
noncomputable def Nah (t:aM)(m:Nat):List bV:=(List.range m).map (Lbs t)
theorem Gaw (t:aM)(m:Nat):Nah t (m+1)=Nah t m++[Lbs t m]:=by simp[Nah,List.range_succ]
theorem zQ (t:aM)(m:Nat):(Nah t m).length=m:=by simp[Nah]
theorem Oad {t:aM}{m:Nat}(h:m<(fF t).length):vO t (m+1)=(iD (vO t m) (Jao t (atI (fF t) (m:Int)))).1:=by
 rw[<- Kag h]
 unfold vO
 generalize vH t=cs
 rfl
theorem Kav {t:aM}(ht:aV t=true){m:Nat}(h:m<=(fF t).length):((vO t m).length:Int)=4/\∀ x∈vO t m,0<=x/\x<=100000000:=by
 obtain⟨h1,h2⟩:=Cai (Ram ht) m (by rw[Mav];exact h)
 have h3:=rM t
 have h4:=eO ht
 refine⟨h1,fun x hx=>?_⟩
 have:=h2 x hx
 omega
theorem Ibq {α:Type}[Inhabited α]{A B:List α}{k:Nat}(h:k<A.length):atI (A++B) (k:Int)=atI A (k:Int):=by
 unfold atI
 rw[Sb4,Sb4,List.getElem?_append_left (by omega)]
theorem Oas {cs:List oN}:∀ {n k:Nat},k<n->atI (jA cs n).2 (k:Int)=(iD (jA cs k).1 (atI cs (k:Int))).2
 | n + 1, k, h => by
  have hl:=(Aa6 cs n).1
  show atI ((jA cs n).2++[_]) (k:Int)=_
  rcases Nat.lt_or_ge k n with h1|h1
  ·rw[<- Oas h1]
   exact Ibq (by omega)
  ·obtain rfl:k=n:=by omega
   rw[bC (by rw[List.length_append,List.length_singleton];omega),List.getElem_append_right (by omega)]
   simp
theorem Xa8 {t:aM}{m:Nat}(h:m<(fF t).length):atI (Va5 t) (m:Int)=(Lbs t m).told:=by
 unfold Va5 Lbs vO
 rw[Oas h,Kag h]
theorem Sad (t:aM):(Va5 t).length=(fF t).length:=(Aa6 _ _).1
noncomputable def sM (t:aM):List Int×List bV:=(vO t (fF t).length,Nah t (fF t).length)
noncomputable def zW (t:aM):List Int×List bV×Bool:=if aV t then ((sM t).1,(sM t).2,true) else ([],[],false)
def Ra6 (rep no:Int)(e:bV):Bool:=e.rep==rep&&e.no==no
noncomputable def Sae (t:aM)(rep no:Int):Int×Int×Bool :=
 if aV t&&inst t.n rep no then
  (if decide (0<=ixF (Ra6 rep no) (sM t).2) then ((atI (sM t).2 (ixF (Ra6 rep no) (sM t).2)).told.code,(atI (sM t).2 (ixF (Ra6 rep no) (sM t).2)).told.sum,true) else (0,0,false))
 else (0,0,false)
theorem Gbg (t:aM):(zW t).1.length<=4/\(zW t).2.1.length<=30:=by
 unfold zW
 cases h:aV t
 ·simp
 ·simp only[if_true]
  unfold sM
  have h1:=(Kav h (Sb7 _)).1
  have h2:=rM t
  have h3:=eO h
  dsimp only
  rw[zQ]
  omega
end Go.Proofs.YtpgnlmfmlffjcaaGreat.Rf

namespace Go.Proofs.YtpgnlmfmlffjcaaGreat.Rf
set_option linter.unusedVariables false
set_option linter.unusedSimpArgs false
end Go.Proofs.YtpgnlmfmlffjcaaGreat.Rf

namespace Go.Proofs.YtpgnlmfmlffjcaaGreat.Rf
set_option linter.unusedVariables false
set_option linter.unusedSimpArgs false
section
variable {T:Nat->Ent} {β:Type}
end
end Go.Proofs.YtpgnlmfmlffjcaaGreat.Rf

namespace Go.Proofs.YtpgnlmfmlffjcaaGreat.Rf
set_option linter.unusedVariables false
set_option linter.unusedSimpArgs false
def Mbj (c:oN)(rep no:Int)(k i:Nat)(r:aY):Bool:=r.state==0||!Dal c r.cmd||((k:Int)==rep&&(i:Int)+1==no)
def Ra7 (c:oN)(rep no:Int)(k:Nat)(l:List aY)(a:iN):Nat->iN
 |0=>a
 | i + 1 => if Mbj c rep no k i (atI l (i : Int)) then Ra7 c rep no k l a i
  else ⟨max (Ra7 c rep no k l a i).seq (atI l (i:Int)).attr.seq,dB (Ra7 c rep no k l a i).deps (k:Int) ((i:Int)+1)⟩
def Xaw (t:aM)(c:oN)(rep no:Int):Nat->iN
 |0=>⟨0,Sb1 t.n.toNat 0⟩
 |k+1=>Ra7 c rep no k (atI t.rows (k:Int)) (Xaw t c rep no k) (atI t.rows (k:Int)).length
def Lbx (t:aM)(c:oN)(rep no:Int):iN:=⟨(Xaw t c rep no t.rows.length).seq+1,(Xaw t c rep no t.rows.length).deps⟩
theorem Ma5 {c:oN}{rep no:Int}{k:Nat}{l:List aY}{a:iN}{M:Int}(h0:0<=a.seq)(h1:a.seq<=M):∀ i,i<=l.length->(∀ r∈l,r.attr.seq<=M) ->
  (Ra7 c rep no k l a i).deps.length=a.deps.length/\0<=(Ra7 c rep no k l a i).seq/\(Ra7 c rep no k l a i).seq<=M
 |0,_,_=>⟨rfl,h0,h1⟩
 | i + 1, hi, hr => by
  obtain⟨h2,h3,h4⟩:=Ma5 (c:=c) (rep:=rep) (no:=no) (k:=k) h0 h1 i (by omega) hr
  have h5:=hr _ (at_mem (show i<l.length by omega))
  unfold Ra7
  split
  ·exact⟨h2,h3,h4⟩
  ·exact⟨by simp only[jU];exact h2,by simp only;omega,by simp only;omega⟩
theorem Ma4 {t:aM}{c:oN}{rep no:Int}{M:Int}(hM:0<=M):∀ k,k<=t.rows.length->(∀ l∈t.rows,∀ r∈l,r.attr.seq<=M) ->
  (Xaw t c rep no k).deps.length=t.n.toNat/\0<=(Xaw t c rep no k).seq/\(Xaw t c rep no k).seq<=M
 |0,_,_=>⟨by simp[Xaw],by simp[Xaw],hM⟩
 | k + 1, hk, hr => by
  obtain⟨h2,h3,h4⟩:=Ma4 (c:=c) (rep:=rep) (no:=no) hM k (by omega) hr
  obtain⟨h5,h6,h7⟩:=Ma5 (c:=c) (rep:=rep) (no:=no) (k:=k) (l:=atI t.rows (k:Int)) h3 h4 (atI t.rows (k:Int)).length (Sb7 _) (hr _ (at_mem (show k<t.rows.length by omega)))
  exact⟨h5.trans h2,h6,h7⟩
theorem Gbi {t:aM}{c:oN}{rep no:Int}{M:Int}(hM:0<=M)(hr:∀ l∈t.rows,∀ r∈l,r.attr.seq<=M) :
  (Lbx t c rep no).deps.length=t.n.toNat/\1<=(Lbx t c rep no).seq/\(Lbx t c rep no).seq<=M+1:=by
 obtain⟨h2,h3,h4⟩:=Ma4 (c:=c) (rep:=rep) (no:=no) hM t.rows.length (Sb7 _) hr
 unfold Lbx
 exact⟨h2,by simp only;omega,by simp only;omega⟩
noncomputable def Bbi (t:aM)(rep no:Int):List (List Int)×Bool:=if aV t&&inst t.n rep no&&pJ t [rep,no] then (gQ t [rep,no],true) else ([],false)
theorem Ibp (t:aM)(rep no:Int):(Bbi t rep no).1.length<=30/\∀ y∈(Bbi t rep no).1,y.length<=2:=by
 unfold Bbi
 split
 ·rename_i h
  simp only[Sbu]at h
  have hx:dM t.n [rep,no]:=⟨rfl,h.1.2⟩
  exact⟨Pae h.1.1 hx,fun y hy=>by have:=(Eao h.1.1 hx hy).1;omega⟩
 ·simp
theorem Ebf {t:aM}:(fF t).length=(aF t).length:=by
 refine Nat.le_antisymm (rM t) ?_
 unfold fF
 rw[Sb5]
 have h1:(nums (gM t).length).Nodup:=vV (Da5 _)
 have h2:=jH h1 (m:=fQ t) fun x hx=>(Har (Qa0 t)).2 (by have:=zC.1 hx;unfold InB;omega)
 rw[dA,Aah]at h2
 exact h2
theorem Cba {t:aM}{x:List Int}:x∈aF t↔x∈aU t.rows/\(gQ t x).length=0:=by
 unfold aF iM
 rw[List.mem_filter]
 simp only[Bool.not_eq_true',decide_eq_false_iff_not]
 constructor
 ·rintro⟨h1,h2⟩;exact⟨h1,by omega⟩
 ·rintro⟨h1,h2⟩;exact⟨h1,by omega⟩
end Go.Proofs.YtpgnlmfmlffjcaaGreat.Rf

namespace Go.Proofs.YtpgnlmfmlffjcaaGreat.Rf
set_option linter.unusedVariables false
set_option linter.unusedSimpArgs false
end Go.Proofs.YtpgnlmfmlffjcaaGreat.Rf
