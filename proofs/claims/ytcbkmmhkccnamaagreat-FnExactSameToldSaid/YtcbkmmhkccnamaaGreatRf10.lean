/- Terms for so program's functions, and nh they are right: part 10 of 10. -/
import Derived.Test.YtcbkmmhkccnamaaGreatRf9
open Bool renaming and_eq_true → Zbo, false_eq_true → Zbr, true_and → Ccm
open List renaming length_append → Zbt, getD_eq_getElem?_getD → Zbu, mem_singleton → Zb0, length_map → Zb3, replicate → Zb6, all_eq_true → Acd, length_singleton → Ac3, length_replicate → Ac6, mem_range → Bcs, getElem_map → Bcw, mem_append → Ccd, eq_of_mem_replicate → Ccq, getElem_inj → Ccz
open Nat renaming le_refl → Zb2, lt_or_ge → Aca
set_option linter.unusedSimpArgs false
set_option linter.unusedVariables false
set_option linter.unnecessarySimpa false
set_option linter.unusedSectionVars false
namespace Go.Proofs.YtcbkmmhkccnamaaGreat.Rf
theorem Rav (l:List bT)(k:Int)(m:Nat):pU (gQ l k m):=by
 unfold pU gQ;rw[List.pairwise_flatMap];refine⟨fun i hi=>by split<;>simp,?_⟩;refine List.pairwise_lt_range.imp fun {a b} pr=>?_
 intro x hx y hy;split at hx
 ·split at hy
  ·rw[Zb0]at hx hy
   subst hx;subst hy
   rw[mY];simp[atI];omega
  ·cases hy
 ·cases hx
theorem Rax (rows:List (List bT)):pU (dN rows):=by
 unfold pU dN Gau;rw[List.pairwise_flatMap];refine⟨fun k hk=>Rav _ _ _,?_⟩;refine List.pairwise_lt_range.imp fun {a b} pr=>?_
 intro x hx y hy;obtain⟨i,hi,rfl⟩:=sQ hx;obtain⟨j,hj,rfl⟩:=sQ hy;rw[mY];simp[atI];omega
theorem Hbv {t:aL}(ht:bI t=true){x:List Int}:x∈dN t.rows↔eY t.n x/\zD t x=true:=by
 refine⟨Ca5 ht,?_⟩
 rintro⟨⟨h2,hi⟩,hc⟩
 match x,h2 with
 | [a, b], _ =>
  have eS:inst t.n a b=true:=hi;obtain⟨r1,r2,r3,r4⟩:=cZ eS;have hb:=gV ht eS;have gy:((iR t a b).state==3)=true:=hc;unfold iR at gy;split at gy
  ·rename_i hle
   unfold dN Gau gQ;simp only[List.mem_flatMap,Bcs];refine⟨a.toNat,hb.lt,(b-1).toNat,?_,?_⟩
   ·rw[show ((a.toNat:Nat):Int)=a by omega];omega
   ·rw[show ((a.toNat:Nat):Int)=a by omega,show (((b-1).toNat:Nat):Int)=b-1 by omega,if_pos gy,show b-1+1=b by omega]
    exact List.mem_singleton.2 rfl
  ·cases gy
theorem Aah (t:aL):pU (aI t):=by
 unfold aI pU;exact List.Pairwise.filter _ (Rax t.rows)
theorem Daw {t:aL}{x:List Int}(h:x∈aI t):x∈dN t.rows:=by
 unfold aI at h;exact (List.mem_filter.1 h).1
theorem mG {t:aL}(ht:bI t=true):(aI t).length<=30:=by
 unfold aI;exact Nat.le_trans (List.length_filter_le _ _) (Eal ht)
theorem dC {t:aL}(ht:bI t=true){x:List Int}(h:x∈aI t):eY t.n x/\(iR t (atI x 0) (atI x 1)).state=3/\x=[atI x 0,atI x 1]/\InB x 0/\InB x 1:=by
 obtain⟨a,b,h1,h2,h3⟩:=pI ht (Daw h);exact⟨⟨h1,h2⟩,h3,(mW h1).symm,a,b⟩
structure Uae (t:aL) (l:List (List Int)) (u:aL):Prop where
 ok:bI u=true
 n:u.n=t.n
 row:∀ rep no,inst t.n rep no=true->iR u rep no=if [rep,no]∈l then iR t rep no else row0 t.n
theorem Uae.com {t u:aL}(ht:bI t=true)(h:Uae t (aI t) u):dN u.rows=aI t:=by
 refine vQ (Rax _) (Aah t) fun x=>?_
 rw[Hbv h.ok,h.n];constructor
 ·rintro⟨⟨h2,hi⟩,hc⟩
  unfold zD at hc;rw[h.row _ _ hi]at hc;split at hc
  ·rename_i hm
   rw[<- mW h2];exact hm
  ·cases hc
 ·intro hx
  obtain⟨hi,hs,he,-⟩:=dC ht hx;refine⟨hi,?_⟩;unfold zD;rw[h.row _ _ hi.2,if_pos (by rw[<- he];exact hx),hs];rfl
noncomputable def gM (t:aL):List (List Int):=(List.range (aI t).length).map fun i:Nat=>wU (aI t) (iR t (atI (atI (aI t) (i:Int)) 0) (atI (atI (aI t) (i:Int)) 1)).attr.deps (atI (aI t) (i:Int)) (aI t).length
theorem Uae.graph {t u:aL}(ht:bI t=true)(h:Uae t (aI t) u):Law u=gM t:=by
 unfold Law oV gM;rw[h.com ht];refine List.map_congr_left fun i hi=>?_
 rw[Bcs]at hi;have hm:=at_mem hi;obtain⟨hx,hs,he,-⟩:=dC ht hm;rw[h.row _ _ hx.2,if_pos (by rw[<- he];exact hm)]
theorem Iaq (t:aL):(gM t).length=(aI t).length:=by simp[gM]
theorem Bbt {t:aL}{r:List Int}(h:r∈gM t):r.length<=(aI t).length/\∀ x∈r,0<=x/\x<(aI t).length:=by
 unfold gM at h;obtain⟨i,hi,rfl⟩:=List.mem_map.1 h;refine⟨Ial ..,fun x hx=>?_⟩;obtain⟨k,hk,-,rfl⟩:=Iak.1 hx;omega
theorem Bbu (t:aL):GOk (gM t):=fun r hr x hx=>by
 have:=(Bbt hr).2 x hx;unfold InB;rw[Iaq];exact this
def Gap (t:aL)(x:List Int):Int:=100*(iR t (atI x 0) (atI x 1)).attr.seq+10*atI x 0+atI x 1
noncomputable def zA (t:aL):List Int:=(aI t).map (Gap t)
theorem Qah (t:aL):(zA t).length=(aI t).length:=by simp[zA]
theorem Za1 {n:Int}{r:bT}(h:rowOk n r=true):0<=r.attr.seq/\r.attr.seq<=999:=by
 unfold rowOk at h;simp only[Zbo]at h;obtain⟨-,h⟩:=h;split at h
 ·simp only[Zbo,decide_eq_true_eq]at h
  rw[h.2];unfold none0;simp
 ·simp only[Zbo]at h
  have:=h.2;unfold lV inR at this;simp only[Zbo,decide_eq_true_eq]at this;omega
theorem Cak {t:aL}(ht:bI t=true){x:List Int}(h:eY t.n x):0<=(iR t (atI x 0) (atI x 1)).attr.seq/\(iR t (atI x 0) (atI x 1)).attr.seq<=999/\0<=atI x 0/\atI x 0<=4/\1<=atI x 1/\atI x 1<=6:=by
 have h1:=Za1 (qV ht h.2);have h2:=cZ h.2;have h3:=bD (bF ht);omega
theorem Gbu {t:aL}(ht:bI t=true){x:List Int}(h:eY t.n x):0<=Gap t x/\Gap t x<=1000000000:=by
 have:=Cak ht h;unfold Gap;omega
theorem Gbv {t:aL}(ht:bI t=true){x y:List Int}(hx:eY t.n x)(hy:eY t.n y)(h:Gap t x=Gap t y):x=y:=by
 have h1:=Cak ht hx;have h2:=Cak ht hy;unfold Gap at h;rw[<- mW hx.1,<- mW hy.1];unfold toL prL;dsimp only;have e1:atI x 0=atI y 0:=by omega
 have e2:atI x 1=atI y 1:=by omega
 rw[e1,e2]
theorem Vau {t:aL}{j:Int}(h:InB (aI t) j):atI (zA t) j=Gap t (atI (aI t) j):=by
 obtain⟨k,rfl⟩:∃ k:Nat,j=(k:Int):=⟨j.toNat,by unfold InB at h;omega⟩;have hk:=aH.1 h;unfold zA;rw[aZ (by rw[Zb3];exact hk),Bcw,aZ hk]
theorem Qai {t:aL}(ht:bI t=true):∀ x y,InB (gM t) x->InB (gM t) y->atI (zA t) x=atI (zA t) y->x=y:=by
 intro x y hx hy h;have pN:InB (aI t) x:=by unfold InB at hx ⊢;rw[Iaq]at hx;exact hx
 have si:InB (aI t) y:=by unfold InB at hy ⊢;rw[Iaq]at hy;exact hy
 rw[Vau pN,Vau si]at h;have e:=Gbv ht (dC ht (dP pN)).1 (dC ht (dP si)).1 h;obtain⟨i,rfl⟩:∃ k:Nat,x=(k:Int):=⟨x.toNat,by unfold InB at hx;omega⟩;obtain⟨j,rfl⟩:∃ k:Nat,y=(k:Int):=⟨y.toNat,by unfold InB at hy;omega⟩;rw[aZ (aH.1 pN),aZ (aH.1 si)]at e;have:=(Ccz (Aag (Aah t))).1 e;omega
theorem Ab9 {t:aL}(ht:bI t=true):∀ k∈zA t,0<=k/\k<=1000000000:=by
 intro k hk;unfold zA at hk;obtain⟨x,hx,rfl⟩:=List.mem_map.1 hk;exact Gbu ht (dC ht hx).1
noncomputable def sV (t:aL):List Int:=nH (gM t) (zA t)
noncomputable def jR (t:aL):List (List Int):=(sV t).map fun j=>atI (aI t) j
theorem Hax {t:aL}{j:Int}(h:j∈sV t):InB (aI t) j:=by
 have:=(Lai (Bbu t)).1 h;unfold InB at this ⊢;rw[Iaq]at this;exact this
theorem Ma7 (t:aL):(sV t).length<=(aI t).length:=by
 have:=Laj (Bbu t) (zA t);rw[Iaq]at this;exact this
theorem Ba4 (t:aL):(jR t).length<=(aI t).length:=by unfold jR;rw[Zb3];exact Ma7 t
theorem yF {t:aL}{x:List Int}(h:x∈jR t):x∈aI t:=by
 unfold jR at h;obtain⟨j,hj,rfl⟩:=List.mem_map.1 h;exact dP (Hax hj)
theorem Va7 {n:Int}{l:List bT}{no:Int}(h:no<=l.length):ext n l no=l:=by
 unfold ext;rw[show (no-l.length).toNat=0 by omega,List.replicate_zero,List.append_nil]
def Obx (rd:List (List Int))(s:aL)(k:Nat)(i:Nat):aL:=if decide (kP rd [(k:Int),(i:Int)+1]<0) then Uam s (k:Int) ((i:Int)+1) (row0 s.n) else s
def Ib4 (rd:List (List Int))(k:Nat):Nat->aL->aL
 |0,s=>s
 |m+1,s=>Obx rd (Ib4 rd k m s) k m
def Sad (rd:List (List Int))(t:aL):Nat->aL
 |0=>t
 |k+1=>Ib4 rd k (atI t.rows (k:Int)).length (Sad rd t k)
theorem Qa6 {rd:List (List Int)}{x:List Int}:kP rd x<0↔x∉rd:=by
 have h:=dJ (fun y=>decide (x=y)) rd;constructor
 ·intro h1 hm
  have:rd.any (fun y=>decide (x=y))=true:=List.any_eq_true.2 ⟨x,hm,by simp⟩;rw[this,decide_eq_true_eq]at h;unfold kP at h1;omega
 ·intro hm
  have:rd.any (fun y=>decide (x=y))=false:=by
   rw[List.any_eq_false];intro y hy e;exact hm (by rw[of_decide_eq_true e];exact hy)
  rw[this,decide_eq_false_iff_not]at h;unfold kP;omega
structure Wau (rd:List (List Int)) (t s:aL) (k m:Nat):Prop where
 ok:bI s=true
 n:s.n=t.n
 len:∀ j:Nat,(atI s.rows (j:Int)).length=(atI t.rows (j:Int)).length
 row:∀ rep no,inst t.n rep no=true->iR s rep no=if (rep<k\/(rep=k/\no<=m))/\[rep,no]∉rd then row0 t.n else iR t rep no
theorem Wau.rowsLen {rd:List (List Int)}{t s:aL}{k m:Nat}(ht:bI t=true)(h:Wau rd t s k m):s.rows.length=t.rows.length:=by
 have h1:=fF ht;have h2:=fF h.ok;have h3:=h.n;omega
theorem Wau.stepS {rd:List (List Int)}{t s:aL}{k m:Nat}(ht:bI t=true)(h:Wau rd t s k m)(hk:k<t.rows.length)(hm:m<(atI t.rows (k:Int)).length):Wau rd t (Obx rd s k m) k (m+1):=by
 have hlen:=fF ht;have h6:=(gX ht (at_mem hk)).1
 have hi:inst t.n (k:Int) ((m:Int)+1)=true:=by
  unfold inst inR;simp only[Zbo,decide_eq_true_eq];omega
 have eS:inst s.n (k:Int) ((m:Int)+1)=true:=by rw[h.n];exact hi
 unfold Obx;cases hf:decide (kP rd [(k:Int),(m:Int)+1]<0)
 ·have jo:[(k:Int),(m:Int)+1]∈rd:=by
   rw[decide_eq_false_iff_not,Qa6]at hf;exact Classical.not_not.1 hf
  refine⟨h.ok,h.n,h.len,fun rep no hr=>?_⟩;simp only[Zbr,if_false];rw[h.row rep no hr];have h0:=cZ hr;by_cases e:rep=(k:Int)/\no=(m:Int)+1
  ·obtain⟨e1,e2⟩:=e
   subst e1;subst e2
   rw[if_neg (fun hh=>hh.2 jo),if_neg (fun hh=>hh.2 jo)]
  ·have:(rep<(k:Int)\/rep=(k:Int)/\no<=(m:Int))↔(rep<(k:Int)\/rep=(k:Int)/\no<=((m+1:Nat):Int)):=by omega
   simp only[this]
 ·have u4:[(k:Int),(m:Int)+1]∉rd:=Qa6.1 (of_decide_eq_true hf)
  simp only[if_true];refine⟨Zab h.ok eS (by rw[h.n];exact Za3 (bF ht)),by unfold Uam;exact h.n,fun j=>?_,fun rep no hr=>?_⟩
  ·have qq:InB s.rows (k:Int):=aH.2 (by rw[h.rowsLen ht];exact hk)
   unfold Uam;dsimp only;by_cases e:j=k
   ·subst e
    rw[rU qq,qE,Va7 (by rw[h.len];omega),h.len]
   ·rw[rV (by omega) (by omega) (by omega),h.len]
  ·rw[Oaq h.ok eS (by rw[h.n];exact hr),h.row rep no hr,h.n]
   have h0:=cZ hr;by_cases e:rep=(k:Int)/\no=(m:Int)+1
   ·obtain⟨e1,e2⟩:=e
    subst e1;subst e2
    rw[if_pos ⟨rfl,rfl⟩,if_pos ⟨.inr ⟨rfl,by omega⟩,u4⟩]
   ·rw[if_neg e]
    have:(rep<(k:Int)\/rep=(k:Int)/\no<=(m:Int))↔(rep<(k:Int)\/rep=(k:Int)/\no<=((m+1:Nat):Int)):=by omega
    simp only[this]
theorem Wau.stepN {rd:List (List Int)}{t s:aL}{k:Nat}(ht:bI t=true)(h:Wau rd t s k 0)(hk:k<t.rows.length):∀ m,m<=(atI t.rows (k:Int)).length->Wau rd t (Ib4 rd k m s) k m
 |0,_=>h
 |m+1,hm=>(Wau.stepN ht h hk m (by omega)).stepS ht hk (by omega)
theorem Wau.all {rd:List (List Int)}{t:aL}(ht:bI t=true)(gE:∀ x∈rd,x∈dN t.rows):∀ k,k<=t.rows.length->Wau rd t (Sad rd t k) k 0
 | 0, _ => by
  refine⟨ht,rfl,fun _=>rfl,fun rep no hr=>?_⟩;have h0:=cZ hr;rw[if_neg (by omega)];rfl
 | k + 1, hk => by
  have h:=(Wau.all ht gE k (by omega)).stepN ht (by omega) (atI t.rows (k:Int)).length (Zb2 _);refine⟨h.ok,h.n,h.len,fun rep no hr=>?_⟩;show iR (Ib4 rd k _ (Sad rd t k)) rep no=_
  rw[h.row rep no hr];have h0:=cZ hr;by_cases e:rep=(k:Int)/\¬ no<=((atI t.rows (k:Int)).length:Int)
  ·obtain⟨e1,e2⟩:=e
   have er:iR t rep no=row0 t.n:=by
    unfold iR;rw[e1,if_neg e2]
   rw[er,ite_self,ite_self]
  ·have:(rep<(k:Int)\/rep=(k:Int)/\no<=((atI t.rows (k:Int)).length:Int))↔(rep<((k+1:Nat):Int)\/rep=((k+1:Nat):Int)/\no<=((0:Nat):Int)):=by omega
   simp only[this]
theorem Hbp {t:aL}(ht:bI t=true):Uae t (aI t) (Sad (aI t) t t.rows.length):=by
 have h:=Wau.all ht (rd:=aI t) (fun x hx=>Daw hx) t.rows.length (Zb2 _);refine⟨h.ok,h.n,fun rep no hr=>?_⟩;rw[h.row rep no hr];have h0:=cZ hr;have h1:=fF ht;by_cases e:[rep,no]∈aI t
 ·rw[if_pos e,if_neg (fun hh=>hh.2 e)]
 ·rw[if_neg e,if_pos ⟨.inl (by omega),e⟩]
noncomputable def Ya2 (t:aL):Nat->aL
 |0=>⟨t.n,Zb6 t.n.toNat []⟩
 |m+1=>Uam (Ya2 t m) (atI (atI (aI t) (m:Int)) 0) (atI (atI (aI t) (m:Int)) 1) (iR t (atI (atI (aI t) (m:Int)) 0) (atI (atI (aI t) (m:Int)) 1))
theorem Oac {t:aL}(ht:bI t=true):∀ m,m<=(aI t).length->Uae t ((aI t).take m) (Ya2 t m)
 | 0, _ => by
  have hg:=bD (bF ht);refine⟨?_,rfl,fun rep no hr=>?_⟩
  ·unfold Ya2 bI
   simp only[Zbo,Ac6,Acd,beq_iff_eq];refine⟨⟨bF ht,by omega⟩,fun l hl=>?_⟩;rw[Ccq hl];simp
  ·have h0:=cZ hr
   rw[if_neg (by simp)];unfold Ya2 iR
   have:atI (Zb6 t.n.toNat ([]:List bT)) rep=[]:=by
    unfold atI;rw[Zbu,List.getElem?_replicate];split<;>rfl
   rw[this,if_neg (by simp only[List.length_nil];omega)]
 | m + 1, hm => by
  have h:=Oac ht m (by omega);have hx:=at_mem (show m<(aI t).length by omega);obtain⟨hi,hs,he,-⟩:=dC ht hx;have eS:inst (Ya2 t m).n (atI (atI (aI t) (m:Int)) 0) (atI (atI (aI t) (m:Int)) 1)=true:=by rw[h.n];exact hi.2
  refine⟨Zab h.ok eS (by rw[h.n];exact qV ht hi.2),h.n,fun rep no hr=>?_⟩;show iR (Uam (Ya2 t m) _ _ _) rep no=_
  rw[Oaq h.ok eS (by rw[h.n];exact hr),h.row rep no hr];rw[<- take_at (show m<(aI t).length by omega)];by_cases e:rep=atI (atI (aI t) (m:Int)) 0/\no=atI (atI (aI t) (m:Int)) 1
  ·rw[if_pos e,if_pos (List.mem_append_right _ (by rw[e.1,e.2,<- he];exact List.mem_singleton.2 rfl)),e.1,e.2]
  ·rw[if_neg e]
   have:[rep,no]∈(aI t).take m++[atI (aI t) (m:Int)]↔[rep,no]∈(aI t).take m:=by
    rw[Ccd,Zb0];refine⟨fun hh=>hh.resolve_right fun e2=>e ?_,.inl⟩;rw[<- e2];exact⟨rfl,rfl⟩
   simp only[this]
theorem Ibh {t:aL}(ht:bI t=true):Uae t (aI t) (Ya2 t (aI t).length):=by
 have h:=Oac ht _ (Zb2 (aI t).length);rw[List.take_length]at h;exact h
noncomputable def Sae (t:aL)(x:List Int):rF:=(iR t (atI x 0) (atI x 1)).cmd
noncomputable def zF (t:aL):List rF:=(jR t).map (Sae t)
theorem Ra0 (t:aL):(zF t).length=(jR t).length:=by unfold zF;rw[Zb3]
theorem Na5 {t:aL}{m:Nat}(h:m<(jR t).length):atI (zF t) (m:Int)=Sae t (atI (jR t) (m:Int)):=by
 unfold zF;rw[aZ (by rw[Zb3];exact h),Bcw,aZ h]
theorem Cb1 {t:aL}(ht:bI t=true){x:List Int}(hx:x∈jR t):pJ (Sae t x)=true:=Za2 (qV ht (dC ht (yF hx)).1.2)
theorem Wak {t:aL}(ht:bI t=true):∀ c∈zF t,pJ c=true:=by
 intro c hc;unfold zF at hc;obtain⟨x,hx,rfl⟩:=List.mem_map.1 hc;exact Cb1 ht hx
noncomputable def Aae (t:aL)(m:Nat):List Int:=(lD (zF t) m).1
noncomputable def Zae (t:aL):List xL:=(lD (zF t) (jR t).length).2
noncomputable def Cbb (t:aL)(m:Nat):bS:=⟨atI (atI (jR t) (m:Int)) 0,atI (atI (jR t) (m:Int)) 1,Sae t (atI (jR t) (m:Int)),(kJ (Aae t m) (Sae t (atI (jR t) (m:Int)))).2⟩
noncomputable def Rai (t:aL)(m:Nat):List bS:=(List.range m).map (Cbb t)
theorem Rah (t:aL)(m:Nat):Rai t (m+1)=Rai t m++[Cbb t m]:=by simp[Rai,List.range_succ]
theorem Gaq (t:aL)(m:Nat):(Rai t m).length=m:=by simp[Rai]
theorem Wa9 {t:aL}{m:Nat}(h:m<(jR t).length):Aae t (m+1)=(kJ (Aae t m) (Sae t (atI (jR t) (m:Int)))).1:=by
 rw[<- Na5 h];unfold Aae;generalize zF t=cs;rfl
theorem Zam {t:aL}(ht:bI t=true){m:Nat}(h:m<=(jR t).length):((Aae t m).length:Int)=4/\∀ x∈Aae t m,0<=x/\x<=100000000:=by
 obtain⟨h1,h2⟩:=Daz (Wak ht) m (by rw[Ra0];exact h);have h3:=Ba4 t;have h4:=mG ht;refine⟨h1,fun x hx=>?_⟩;have:=h2 x hx;omega
theorem Ibd {α:Type}[Inhabited α]{A B:List α}{k:Nat}(h:k<A.length):atI (A++B) (k:Int)=atI A (k:Int):=by
 unfold atI;rw[Zbu,Zbu,List.getElem?_append_left (by omega)]
theorem Lad {cs:List rF}:∀ {n k:Nat},k<n->atI (lD cs n).2 (k:Int)=(kJ (lD cs k).1 (atI cs (k:Int))).2
 | n + 1, k, h => by
  have hl:=(Ba2 cs n).1;show atI ((lD cs n).2++[_]) (k:Int)=_
  rcases Aca k n with h1|h1
  ·rw[<- Lad h1]
   exact Ibd (by omega)
  ·obtain rfl:k=n:=by omega
   rw[aZ (by rw[Zbt,Ac3];omega),List.getElem_append_right (by omega)];simp
theorem Dbu {t:aL}{m:Nat}(h:m<(jR t).length):atI (Zae t) (m:Int)=(Cbb t m).told:=by
 unfold Zae Cbb Aae;rw[Lad h,Na5 h]
theorem Zad (t:aL):(Zae t).length=(jR t).length:=(Ba2 _ _).1
noncomputable def pQ (t:aL):List Int×List bS:=(Aae t (jR t).length,Rai t (jR t).length)
def Jax (rep no:Int)(e:bS):Bool:=e.rep==rep&&e.no==no
theorem Xao {t:aL}(ht:bI t=true):(jR t).Nodup:=by
 unfold jR List.Nodup;rw[List.pairwise_map];have qy:(sV t).Nodup:=wF (Bbu t) _;refine List.Pairwise.imp_of_mem (fun {a b} ha hb pr e=>pr ?_) qy;have ha':=Hax ha;have de:=Hax hb;obtain⟨i,rfl⟩:∃ k:Nat,a=(k:Int):=⟨a.toNat,by unfold InB at ha';omega⟩;obtain⟨j,rfl⟩:∃ k:Nat,b=(k:Int):=⟨b.toNat,by unfold InB at de;omega⟩;rw[aZ (aH.1 ha'),aZ (aH.1 de)]at e;have:=(Ccz (Aag (Aah t))).1 e;omega
section
variable {T:Nat->Ent} {β:Type}
theorem Nb9 {body:Tm β}{ρ:List D}{init:List aK}(n:Nat)(p:Nat->Bool)(vs:Nat->List D)(q:Kind×List D)(r:List D)(h0:init.map (·.val ρ)=vs 0)(hq:q.1≠.cont)
  (h1:∀ i:Nat,i<n->decide ((i:Int)<n)=true->(∀ j,j<i->p j=true)->Er T body (ρ++vs i)=iN (p i) (some (.cont,vs (i+1))) (some (.ret,r)))
  (h2:decide ((n:Int)<n)=false->(∀ j,j<n->p j=true)->Er T body (ρ++vs n)=some q) :
  Er T (.loop init body) ρ=iN (nU p n) (some q) (some (.ret,r)):=by
 have key:=Qad (T:=T) (body:=body) (ρ:=ρ) (fun i=>n-i) (fun i=>i<=n/\∀ j,j<i->p j=true) vs
  (fun x=>(∀ j,j<n->p j=true)/\x=q\/(∃ j,j<n/\p j=false)/\x=(.ret,r))
  (fun i hi=>by
   obtain⟨hi1,j0⟩:=hi
   rcases Aca i n with hlt|lB
   ·have e:=h1 i hlt (by simp;omega) j0
    cases hp:p i with
    | true =>
     rw[hp]at e
     exact⟨_,e,.inl ⟨rfl,i+1,⟨by omega,fun j hj=>by
      rcases Aca j i with h|h
      ·exact j0 j h
      ·obtain rfl:j=i:=by omega
       exact hp⟩,by omega,rfl⟩⟩
    | false =>
     rw[hp]at e;exact⟨_,e,.inr ⟨by simp,.inr ⟨⟨i,hlt,hp⟩,rfl⟩⟩⟩
   ·obtain rfl:i=n:=by omega
    exact⟨_,h2 (by simp) j0,.inr ⟨hq,.inl ⟨j0,rfl⟩⟩⟩) n 0 (by omega) ⟨Nat.zero_le _,fun j hj=>by omega⟩ init h0
 obtain⟨x,h3,⟨h4,rfl⟩|⟨⟨j,hj,hp⟩,rfl⟩⟩:=key
 ·rw[h3,iX.2 h4];rfl
 ·rw[h3]
  have:nU p n=false:=by
   cases h:nU p n with
   |false=>rfl
   |true=>rw[iX.1 h j hj]at hp;cases hp
  rw[this];rfl
end
def Dbp (e f:bS):Bool:=!(e.rep==f.rep&&e.no==f.no)||decide (e.told=f.told)
theorem lG {e f:bS}:Dbp e f=true↔(e.rep=f.rep->e.no=f.no->e.told=f.told):=by
 unfold Dbp;by_cases h1:e.rep=f.rep<;>by_cases h2:e.no=f.no<;>simp[h1,h2]
def Aaz (C:List bS):Bool:=C.all fun a=>C.all fun b=>Dbp a b
theorem kG {C:List bS}:Aaz C=true↔∀ a∈C,∀ b∈C,a.rep=b.rep->a.no=b.no->a.told=b.told:=by
 unfold Aaz;simp only[Acd,lG]
def Rb3 (A:List bS)(e:bS):List bS:=if decide (ixF (Jax e.rep e.no) A<0) then A++[e] else A
def Lax (C:List bS):List bS:=C.foldl Rb3 []
theorem Qa2 (C:List bS)(e:bS):Lax (C++[e])=Rb3 (Lax C) e:=by unfold Lax;rw[List.foldl_append];rfl
theorem Ia4 {rep no:Int}{e:bS}:Jax rep no e=true↔e.rep=rep/\e.no=no:=by
 unfold Jax;simp
theorem Cbd {rep no:Int}{A:List bS}(h:ixF (Jax rep no) A<0):∀ f∈A,¬ (f.rep=rep/\f.no=no):=by
 intro f hf hk;obtain⟨k,u5,rfl⟩:=List.getElem_of_mem hf;have:=Vaw (p:=Jax rep no) (xs:=A) u5 (by rw[aZ u5];exact Ia4.2 hk);omega
theorem Jbo {α:Type}{P:List α->Prop}(h0:P [])(hs:∀ C e,P C->P (C++[e]))(C:List α):P C:=by
 have h:∀ L:List α,P L.reverse:=by
  intro L
  induction L with
  |nil=>exact h0
  |cons e L ih=>rw[List.reverse_cons];exact hs _ _ ih
 have:=h C.reverse;rwa[List.reverse_reverse]at this
theorem Iap:∀ (C:List bS),(∀ f∈Lax C,f∈C)/\(Lax C).length<=C.length/\∀ e∈C,∃ f∈Lax C,f.rep=e.rep/\f.no=e.no:=by
 refine Jbo ⟨by simp[Lax],by simp[Lax],by simp⟩ fun C e ih=>?_
 ·obtain⟨h1,h2,h3⟩:=ih
  rw[Qa2];unfold Rb3;split
  ·refine⟨fun f hf=>?_,by simp only[Zbt,Ac3];omega,fun x hx=>?_⟩
   ·rcases List.mem_append.1 hf with h|h
    ·exact List.mem_append.2 (.inl (h1 f h))
    ·exact List.mem_append.2 (.inr h)
   ·rcases List.mem_append.1 hx with h|h
    ·obtain⟨f,hf,hk⟩:=h3 x h
     exact⟨f,List.mem_append.2 (.inl hf),hk⟩
    ·exact⟨x,List.mem_append.2 (.inr h),rfl,rfl⟩
  ·rename_i hn
   simp only[decide_eq_true_eq]at hn;refine⟨fun f hf=>List.mem_append.2 (.inl (h1 f hf)),by simp only[Zbt,Ac3];omega,fun x hx=>?_⟩
   rcases List.mem_append.1 hx with h|h
   ·exact h3 x h
   ·simp only[Zb0]at h
    subst h;obtain⟨hb,hp,-⟩:=yM (p:=Jax x.rep x.no) (xs:=Lax C) (by omega);exact⟨_,dP hb,Ia4.1 hp⟩
def okS (C:List bS)(e:bS):Bool:=C.all fun c=>Dbp c e
theorem Gbl {C:List bS}{e:bS}(h:decide (ixF (Jax e.rep e.no) (Lax C)<0)=true):okS C e=true:=by
 unfold okS;rw[Acd];intro c hc;rw[lG];intro h1 h2;obtain⟨f,hf,k1,k2⟩:=(Iap C).2.2 c hc;exact absurd ⟨k1.trans h1,k2.trans h2⟩ (Cbd (of_decide_eq_true h) f hf)
theorem Gbk {C:List bS}{e:bS}(hC:Aaz C=true)(h:decide (ixF (Jax e.rep e.no) (Lax C)<0)=false) :
  okS C e=decide ((atI (Lax C) (ixF (Jax e.rep e.no) (Lax C))).told=e.told):=by
 have h0:=of_decide_eq_false h;obtain⟨hb,hp,-⟩:=yM (p:=Jax e.rep e.no) (xs:=Lax C) (by omega);have hm:=dP hb;generalize atI (Lax C) (ixF (Jax e.rep e.no) (Lax C))=f at hp hm ⊢;obtain⟨k1,k2⟩:=Ia4.1 hp;have hfC:=(Iap C).1 f hm;rw[kG]at hC;unfold okS;by_cases ht:f.told=e.told
 ·rw[decide_eq_true ht,Acd]
  intro c hc;rw[lG];intro h1 h2;exact (hC c hc f hfC (h1.trans k1.symm) (h2.trans k2.symm)).trans ht
 ·rw[decide_eq_false ht]
  cases ha:C.all fun c=>Dbp c e with
  |false=>rfl
  | true =>
   rw[Acd]at ha;exact absurd (lG.1 (ha f hfC) k1 k2) ht
theorem Cbx {C:List bS}{e:bS}:Aaz (C++[e])=(Aaz C&&okS C e):=by
 cases h:Aaz (C++[e]) with
 | true =>
  rw[kG]at h;have h1:Aaz C=true:=kG.2 fun a ha b hb=>h a (by simp[ha]) b (by simp[hb])
  have h2:okS C e=true:=List.all_eq_true.2 fun c hc=>lG.2 (h c (by simp[hc]) e (by simp))
  rw[h1,h2];rfl
 | false =>
  cases h1:Aaz C with
  |false=>rfl
  | true =>
   cases h2:okS C e with
   |false=>rfl
   | true =>
    exfalso;rw[kG]at h1;unfold okS at h2;rw[Acd]at h2
    have:Aaz (C++[e])=true:=kG.2 fun a ha b hb e1 e2=>by
     rcases List.mem_append.1 ha with k|k<;>rcases List.mem_append.1 hb with m|m
     ·exact h1 a k b m e1 e2
     ·have:=List.mem_singleton.1 m;exact (lG.1 (h2 a k) (e1.trans (by rw[this])) (e2.trans (by rw[this]))).trans (by rw[this])
     ·have:=List.mem_singleton.1 k;exact ((lG.1 (h2 b m) (e1.symm.trans (by rw[this])) (e2.symm.trans (by rw[this]))).trans (by rw[this])).symm
     ·rw[List.mem_singleton.1 k,List.mem_singleton.1 m]
    rw[this]at h;cases h
theorem Eag (C B:List bS):∀ (k:Nat),k<=B.length->Aaz (C++B.take k)=(Aaz C&&nU (fun j=>okS (C++B.take j) (atI B (j:Int))) k)
 |0,_=>by simp[nU]
 | k + 1, h => by
  rw[<- take_at (show k<B.length by omega),<- List.append_assoc,Cbx,Eag C B k (by omega)];rw[Bool.and_assoc];congr 1
theorem Ras {C B:List bS}(h:Aaz (C++B)=true):Aaz C=true:=by
 rw[kG]at h ⊢;exact fun a ha b hb=>h a (List.mem_append.2 (.inl ha)) b (List.mem_append.2 (.inl hb))
noncomputable def iW (reps:List nZ):List bS:=reps.flatMap fun R=>(pQ R.table).2
theorem uM {reps:List nZ}{i:Nat}(h:i<reps.length):iW (reps.take (i+1))=iW (reps.take i)++(pQ (atI reps (i:Int)).table).2:=by
 unfold iW;rw[<- take_at h,List.flatMap_append];simp
theorem Wab {t:aL}{m:Nat}{e:bS}(h:e∈Rai t m):∃ i:Nat,i<m/\e=Cbb t i:=by
 unfold Rai at h;obtain⟨i,hi,e⟩:=List.mem_map.1 h;exact⟨i,List.mem_range.1 hi,e.symm⟩
theorem Waa (t:aL)(m:Nat):(Cbb t m).rep=atI (atI (jR t) (m:Int)) 0:=by simp only[Cbb]
theorem Cba (t:aL)(m:Nat):(Cbb t m).no=atI (atI (jR t) (m:Int)) 1:=by simp only[Cbb]
theorem Dbe (t:aL):(pQ t).2=Rai t (jR t).length:=by simp only[pQ]
theorem Ibc {t:aL}(ht:bI t=true):Aaz (pQ t).2=true:=by
 rw[kG,Dbe];intro a ha b hb e1 e2;obtain⟨i,hi,ea⟩:=Wab ha;obtain⟨j,hj,eb⟩:=Wab hb;have hx:=(dC ht (yF (at_mem hi))).1.1;have hy:=(dC ht (yF (at_mem hj))).1.1;rw[ea,eb,Waa,Waa]at e1;rw[ea,eb,Cba,Cba]at e2
 have key:atI (jR t) (i:Int)=atI (jR t) (j:Int):=by
  rw[<- mW hx,<- mW hy];unfold toL prL;rw[e1,e2]
 rw[aZ hi,aZ hj]at key;have:i=j:=(Ccz (Xao ht)).1 key;rw[ea,eb,this]
noncomputable def Dbq (reps:List nZ)(i:Nat):Bool:=(reps.take i).all fun b=>(pQ (atI reps (i:Int)).table).2.all fun e=>(pQ b.table).2.all fun f=>Dbp e f
theorem Ua8 {reps:List nZ}(ht:∀ R∈reps,bI R.table=true):∀ n,n<=reps.length->nU (Dbq reps) n=Aaz (iW (reps.take n))
 |0,_=>by simp[nU,iW,Aaz]
 | n + 1, h => by
  have hn:n<reps.length:=by omega
  rw[uM hn];have e:nU (Dbq reps) (n+1)=(nU (Dbq reps) n&&Dbq reps n):=rfl;rw[e,Ua8 ht n (by omega)];have hm:=at_mem hn;have hbc:=Ibc (ht _ hm)
  cases h1:Aaz (iW (reps.take n)) with
  | false =>
   cases h2:Aaz (iW (reps.take n)++(pQ (atI reps (n:Int)).table).2) with
   |false=>rfl
   |true=>rw[Ras h2]at h1;cases h1
  | true =>
   rw[Ccm];rw[kG]at h1 hbc
   cases h2:Dbq reps n with
   | true =>
    symm
    unfold Dbq at h2;simp only[Acd,lG]at h2;rw[kG];intro a ha b hb e1 e2
    rcases List.mem_append.1 ha with ha|ha<;>rcases List.mem_append.1 hb with hb|hb
    ·exact h1 a ha b hb e1 e2
    ·unfold iW at ha
     obtain⟨R,hR,haR⟩:=List.mem_flatMap.1 ha;exact (h2 R hR b hb a haR e1.symm e2.symm).symm
    ·unfold iW at hb
     obtain⟨R,hR,hbR⟩:=List.mem_flatMap.1 hb;exact h2 R hR a ha b hbR e1 e2
    ·exact hbc a ha b hb e1 e2
   | false =>
    symm
    cases h3:Aaz (iW (reps.take n)++(pQ (atI reps (n:Int)).table).2) with
    |false=>rfl
    | true =>
     rw[kG]at h3
     have:Dbq reps n=true:=by
      unfold Dbq;simp only[Acd,lG];intro R hR e he f hf;exact h3 e (List.mem_append.2 (.inr he)) f (List.mem_append.2 (.inl (List.mem_flatMap.2 ⟨R,hR,hf⟩)))
     rw[this]at h2;cases h2
theorem Wah (reps:List nZ):∀ n,n<=reps.length->nU (fun i=>Aaz (iW (reps.take (i+1)))) n=Aaz (iW (reps.take n))
 |0,_=>by simp[nU,iW,Aaz]
 | n + 1, h => by
  have e:nU (fun i=>Aaz (iW (reps.take (i+1)))) (n+1)=(nU (fun i=>Aaz (iW (reps.take (i+1)))) n&&Aaz (iW (reps.take (n+1)))):=rfl;rw[e,Wah reps n (by omega)]
  cases h2:Aaz (iW (reps.take (n+1))) with
  |false=>rw[Bool.and_false]
  | true =>
   rw[uM (by omega)]at h2;rw[Ras h2];rfl
noncomputable def Rbz (t:Ear):Bool:=Aaz (iW t.reps)
noncomputable def Lbn (t:Ear):Bool×Bool:=if Faz t then (Rbz t,true) else (false,false)
def Wb7 (r:bT)(k no:Int):Bool:=(r.state==3)&&decide (no<=atI r.attr.deps k)
def Zbd (t:aL)(k no:Int):Bool:=decide (no<=((atI t.rows k).length:Int))||t.rows.any fun l=>l.any fun r=>Wb7 r k no
def Tbb (x:Ear)(k:Int):aL:=(atI x.reps k).table
def Abk (x:Ear)(ms:List Int)(y:List Int):Bool:=ms.any fun k=>!((iR (Tbb x k) (atI y 0) (atI y 1)).state==3)
def Sbv (x:Ear)(ms:List Int)(k no:Int):Bool:=ms.any fun m=>Zbd (Tbb x m) k no
def Rb0 (x:Ear)(ms:List Int):List (List Int):=(uO x.reps.length).filter fun y=>Sbv x ms (atI y 0) (atI y 1)&&Abk x ms y
theorem Gbg {x:Ear}{ms:List Int}{y:List Int}:y∈Rb0 x ms↔eY x.reps.length y/\Sbv x ms (atI y 0) (atI y 1)=true/\Abk x ms y=true:=by
 unfold Rb0;rw[List.mem_filter,Aa4,Zbo]
theorem Abj (x:Ear)(ms:List Int):pU (Rb0 x ms):=List.Pairwise.filter _ (Fav _)
structure Cov (n:Nat) (ms:List Int) (S:Int->Int->Prop):Prop where
 len:ms.length=n
 rng:∀ x∈ms,0<=x/\x<=6
 iff:∀ j no:Int,0<=j->j<n->1<=no->(no<=atI ms j↔S j no)
theorem Cov.congr {n:Nat}{ms:List Int}{S S':Int->Int->Prop}(h:Cov n ms S)(hs:∀ j no:Int,0<=j->j<n->1<=no->(S j no↔S' j no)):Cov n ms S' :=
 ⟨h.len,h.rng,fun j no h0 h1 h2=>(h.iff j no h0 h1 h2).trans (hs j no h0 h1 h2)⟩
theorem Cov.start (n:Nat):Cov n (Zb6 n 0) fun _ _=>False:=by
 refine⟨Ac6,fun x hx=>by rw[Ccq hx];omega,fun j no h0 h1 h2=>?_⟩
 have:atI (Zb6 n (0:Int)) j=0:=by
  obtain⟨k,rfl⟩:∃ k:Nat,j=(k:Int):=⟨j.toNat,by omega⟩;rw[aZ (by rw[Ac6];omega),List.getElem_replicate]
 rw[this];constructor
 ·intro h;omega
 ·exact False.elim
structure Ob2 (x:Ear) (ms:List Int) (S:List Int->Prop) (out:List (List Int)):Prop where
 nodup:out.Nodup
 iff:∀ y,y∈out↔S y/\Abk x ms y=true
 inst:∀ y∈out,eY x.reps.length y
theorem Ob2.done {x:Ear}{ms:List Int}{out:List (List Int)}(h:Ob2 x ms (fun y=>eY x.reps.length y/\Sbv x ms (atI y 0) (atI y 1)=true) out):(lJ id (out.map prL)).map toL=Rb0 x ms:=by
 obtain⟨h1,h2⟩:=Hak (l:=out) (fun y hy=>(h.inst y hy).1) h.nodup;refine vQ h1 (Abj x ms) fun y=>?_
 rw[h2,h.iff,Gbg,and_assoc]
theorem Ob2.step {x:Ear}{ms:List Int}{S:List Int->Prop}{out:List (List Int)}(h:Ob2 x ms S out){y:List Int}(hy:eY x.reps.length y) :
  Ob2 x ms (fun z=>S z\/z=y) (if Abk x ms y&&!(out.any fun z=>decide (y=z)) then out++[y] else out):=by
 cases ho:Abk x ms y with
 | false =>
  simp only[Bool.false_and,Zbr,if_false];refine⟨h.nodup,fun z=>?_,h.inst⟩;rw[h.iff];constructor
  ·rintro⟨h1,h2⟩;exact⟨.inl h1,h2⟩
  ·rintro⟨h1|rfl,h2⟩
   ·exact⟨h1,h2⟩
   ·rw[ho]at h2;cases h2
 | true =>
  rw[Ccm]
  cases ha:out.any fun z=>decide (y=z) with
  | true =>
   simp only[Bool.not_true,Zbr,if_false];have hm:=Eap.1 ha;refine⟨h.nodup,fun z=>?_,h.inst⟩;rw[h.iff];constructor
   ·rintro⟨h1,h2⟩;exact⟨.inl h1,h2⟩
   ·rintro⟨h1|rfl,h2⟩
    ·exact⟨h1,h2⟩
    ·exact (h.iff z).1 hm
  | false =>
   simp only[Bool.not_false,if_true];have hm:y∉out:=fun hc=>by rw[Eap.2 hc]at ha;cases ha
   refine⟨rZ h.nodup hm,fun z=>?_,fun z hz=>?_⟩
   ·rw[Ccd,h.iff,Zb0]
    constructor
    ·rintro (⟨h1,h2⟩|rfl)
     ·exact⟨.inl h1,h2⟩
     ·exact⟨.inr rfl,ho⟩
    ·rintro⟨h1|rfl,h2⟩
     ·exact .inl ⟨h1,h2⟩
     ·exact .inr rfl
   ·rcases List.mem_append.1 hz with hz|hz
    ·exact h.inst z hz
    ·rw[List.mem_singleton.1 hz];exact hy
end Go.Proofs.YtcbkmmhkccnamaaGreat.Rf
