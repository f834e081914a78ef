import Derived.Test.YtgpamlpecmldfaaGreatRf8
import Derived.Lib.ItoaNum
set_option linter.all false
open Bool renaming and_eq_true → Vbk, false_eq_true → Vbm, not_eq_true' → Vb9, true_and → Wbf, or_eq_true → Wb9, and_true → Xbv, or_true → Xbw
open List renaming getElem?_eq_some_iff → Vbn, mem_append_left → Vbo, mem_singleton → Vbp, mem_append_right → Vbr, mem_cons → Vbu, length_append → Vbw, append_assoc → Vbx, getD_eq_getElem?_getD → Vby, mem_cons_of_mem → Vb1, mem_append → Vb5, mem_cons_self → Vb7, replicate → Wba, length_cons → Wbb, all_eq_true → Wbg, length_take → Wbh, length_map → Wbm, nil_append → Wby, length_replicate → Wb1, mem_map → Wb3, length_drop → Wb4, mem_iff_getElem? → Wb8, getElem_mem → Xbb, mem_iff_getElem → Xbc, mem_map_of_mem → Xbf, pairwise_cons → Xbg, mem_of_mem_drop → Xbj, pairwise_iff_getElem → Xbm, drop_eq_getElem_cons → Xbo, any_eq_false → Xbr, take_append_drop → Xbs, any_eq_true → Xb1, mem_filter → Xb2, foldl_cons → Xb4, mem_of_mem_take → Yba, map_append → Ybj, mem_range → Ybu, range → Yb1, getElem_append_left → Yb3, takeWhile_cons → Yb7, mem_flatMap → Zba
open List.cons renaming injEq → Xbh
open Nat renaming le_refl → Vb6, lt_or_ge → Wbc, le_trans → Xb3
namespace Go.Proofs.YtgpamlpecmldfaaGreat.Rf
section
variable {T:Nat->Ent} {β:Type}
theorem Ob9 {body:Tm β}{ρ:List D}(j s n:Nat)(p:Nat->Bool)(r:List D)
  (h1:∀ i:Nat,s<=i->i<n->decide ((i:Int)<n)=true->Er T body (ρ++[i64 i])=jN (p i) (some (.cont,[i64 ((i:Int)+1)])) (some (.ret,r)))
  (h3:∀ i:Nat,n<=i->decide ((i:Int)<n)=false->Er T body (ρ++[i64 i])=some (.yield j,[])) :
  Er T (.loop [.c (i64 s)] body) ρ=jN (zM (fun i=>decide (i<s)||p i) n) (some (.yield j,[])) (some (.ret,r)):=by
 obtain⟨q,h4,h5⟩:=Vat (T:=T) (body:=body) (ρ:=ρ) (fun i:Nat=>n-i) (fun i=>s<=i/\∀ k,s<=k->k<i->k<n->p k=true) (fun i=>[i64 (i:Nat)])
  (fun q=>q=jN (zM (fun i=>decide (i<s)||p i) n) (.yield j,[]) (.ret,r))
  (fun i ⟨hs,cT⟩=>by
   rcases Wbc i n with bj|n4
   ·have e:=h1 i hs bj (by simp;omega)
    cases hp:p i with
    | true =>
     rw[hp]at e
     exact⟨_,e,.inl ⟨rfl,i+1,⟨by omega,fun k h2 h6 h7=>by
      rcases Wbc k i with h8|h8
      ·exact cT k h2 h8 h7
      ·obtain rfl:k=i:=by omega
       exact hp⟩,by omega,rfl⟩⟩
    | false =>
     rw[hp]at e;have hf:zM (fun i=>decide (i<s)||p i) n=false:=Eaf.2 ⟨i,bj,by simp[hp];omega⟩;exact⟨_,e,.inr ⟨by simp,by rw[hf];rfl⟩⟩
   ·have ht:zM (fun i=>decide (i<s)||p i) n=true:=fZ.2 fun k hk=>by
     by_cases h2:k<s
     ·simp[h2]
     ·rw[cT k (by omega) (by omega) hk,Xbw]
    exact⟨_,h3 i n4 (by simp;omega),.inr ⟨by simp,by rw[ht];rfl⟩⟩)
  n s (by omega) ⟨Vb6 _,fun k h1 h2 _=>by omega⟩ [.c (i64 s)] rfl
 rw[h4,h5];cases zM (fun i=>decide (i<s)||p i) n<;>rfl
end
def Ea2 (n:Int):Prop:=0<=n/\n<=1000000
theorem Ya0 {n:Int}(h:bR n=true):Ea2 n:=by have:=aL h;unfold Ea2;omega
theorem Yad (k:Int):k=1\/k=2\/k=3\/(k==1)=false/\(k==2)=false/\(k==3)=false:=by
 by_cases h1:k=1
 ·exact .inl h1
 by_cases h2:k=2
 ·exact .inr (.inl h2)
 by_cases h3:k=3
 ·exact .inr (.inr (.inl h3))
 ·exact .inr (.inr (.inr ⟨by simpa using h1,by simpa using h2,by simpa using h3⟩))
def Faq (xs:List Int)(i:Nat):Bool:=!(decide (0<i)&&decide (atI xs (i:Int)<=atI xs ((i:Int)-1)))
def Ga7 (xs:List Int)(lo hi:Int):Bool:=zM (fun i=>inR (atI xs (i:Int)) lo hi&&Faq xs i) xs.length
def Oa1 (p l:aN):Bool:=decide (l.rep<p.rep)||(p.rep==l.rep&&decide (l.no<=p.no))
def gP (n me:Int)(l:aN):Bool :=
  inst n l.rep l.no&&inR l.ballot 0 9999&&Ga7 l.who 0 (n-1)&&uN l.who me&&bZ n l.first&&bZ n l.attr &&
  (if l.phase==1 then iZ l.cmd&&(l.seen.length:Int)==0 else if l.phase==2 then iZ l.cmd&&(l.seen.length:Int)==0&&!l.same&&decide (l.first=l.attr)
   else if l.phase==3 then decide (l.cmd=⟨0,0,0,0,0⟩)&&decide (l.first=none0 n)&&decide (l.attr=none0 n)&&!l.same&&(l.seen.length:Int)==l.who.length&&l.seen.all fun r=>rowOk n r&&!(r.state==3)
   else false)
def Ham (n me:Int)(ls:List aN)(i:Nat):Bool:=gP n me (atI ls (i:Int))&&!(decide (0<(i:Int))&&Oa1 (atI ls ((i:Int)-1)) (atI ls (i:Int)))
def bV (r:pO):Bool:=dZ r.table&&inR r.me 0 (r.table.n-1)&&zM (Ham r.table.n r.me r.leads) r.leads.length
def Tak (l:aN):Prop:=l.first.deps.length<=10000000000/\l.attr.deps.length<=10000000000/\l.who.length<=10000000000/\mF l.seen
def iB (l:List aN):Prop:=l.length<=10000000000/\∀ x∈l,Tak x
theorem Xap {l:aN}(h:Faz l<=1048576):Tak l:=by
 rw[vX]at h;exact⟨by omega,by omega,by omega,wC (by omega)⟩
def Ma4:List Int->List Int->Option Int
 |[],_=>none
 |_::_,[]=>some 1
 |x::xs,y::ys=>if x<y then some (-1) else if y<x then some 1 else Ma4 xs ys
def Ebl (xs ys:List Int):Int:=match Ma4 xs ys with
 |some c=>c
 |none=>if decide ((xs.length:Int)<ys.length) then -1 else 0
def Hbv (a b:Int):Int:=if a<b then -1 else if b<a then 1 else 0
theorem Za7 {xs ys:List Int}{i:Nat}(h:i<xs.length)(h2:i<ys.length):Ma4 (xs.drop i) (ys.drop i)=if atI xs (i:Int)<atI ys (i:Int) then some (-1) else if atI ys (i:Int)<atI xs (i:Int) then some 1 else Ma4 (xs.drop (i+1)) (ys.drop (i+1)):=by
 rw[Xbo h,Xbo h2,bH h,bH h2];rfl
theorem Ebm {xs ys:List Int}{i:Nat}(h:i<xs.length)(h2:ys.length<=i):Ma4 (xs.drop i) (ys.drop i)=some 1:=by
 rw[Xbo h,List.drop_eq_nil_of_le h2];rfl
theorem Vbg (a b c d:Int):decide (Ebl [a,b] [c,d]<=0)=(decide (a<c)||(c==a&&decide (b<=d))):=by
 unfold Ebl Ma4;by_cases h1:a<c
 ·simp[h1]
 ·rw[if_neg h1]
  by_cases h2:c<a
  ·simp[h1,h2];omega
  ·rw[if_neg h2]
   have:c=a:=by omega
   subst this;unfold Ma4;by_cases h3:b<d
   ·simp[h3];omega
   ·rw[if_neg h3]
    by_cases h4:d<b
    ·simp[h4]
    ·rw[if_neg h4]
     simp[Ma4];omega
theorem Sa6 {α:Type}{f:α->Nat}{k:Nat}:∀ {xs:List α},(∀ x∈xs,f x<=k)->szL f xs<=xs.length*(k+1)
 |[],_=>by simp[szL]
 | x :: xs, h => by
  have h1:=h x Vb7;have h2:=Sa6 (f:=f) (k:=k) (xs:=xs) fun y hy=>h y (Vb1 _ hy)
  rw[Sa5,Wbb,Nat.succ_mul];omega
theorem La9 {α:Type}{xs:List α}{k:Int}{a x:α}(h:x∈jF xs k a):x∈xs\/x=a:=List.mem_or_eq_of_mem_set h
def isBytes (d:D):Prop:=WT (.sl 1 [.int .u8]) d
def Abp (d:D):Nat:=match d with
 |.rows _ rs=>rs.length
 |_=>0
theorem Iao {d:D}(h:isBytes d):aT.len.run [d]=some [i64 (Abp d)]/\Abp d<=140737488351232:=by
 obtain⟨rs,rfl,h1,h2⟩:=h;refine⟨rfl,?_⟩;simp only[Abp];have:reachBytes=140737488351232:=rfl;omega
theorem bytes_at {d:D}(h:isBytes d){k:Int}(h0:0<=k)(h1:k<(Abp d:Nat)):aT.inb.run [d,i64 k]=some []/\∃ b,(aT.row 1 0 [true]).run [d,i64 k]=some [.int .u8 b]/\0<=b/\b<=255:=by
 obtain⟨rs,rfl,h2,h3⟩:=h;simp only[Abp]at h1;refine⟨by simp only[aT.run];rw[if_pos ⟨h0,h1⟩],?_⟩;have hk:k.toNat<rs.length:=by omega
 have hm:=h3 _ (Xbb hk);simp only[WTs]at hm;obtain⟨d1,r1,e,⟨b,rfl,lR,gp⟩,rfl⟩:=hm;refine⟨b,?_,lR,gp⟩;simp only[aT.run];rw[if_pos ⟨rfl,h0⟩,List.getElem?_eq_getElem hk,e];rfl
def u64 (n:Int):D:=.int .u64 n
theorem Obz {a b:Int}:(aT.bin .mul).run [u64 a,.int .u64 b]=some [u64 (IntKind.u64.wrap (a*b))]:=rfl
theorem Ob2 {a b:Int}:(aT.bin .add).run [u64 a,u64 b]=some [u64 (IntKind.u64.wrap (a+b))]:=rfl
theorem Ib2 {a b:Int}:(aT.bin .add).run [u64 a,.int .u64 b]=some [u64 (IntKind.u64.wrap (a+b))]:=rfl
theorem Oby {a:Int}:(aT.bin .shr).run [u64 a,.int .u64 40]=some [u64 (a.fdiv (2 ^ 40))]:=rfl
theorem Ob1 {a:Int}:(aT.bin .and).run [u64 a,.int .u64 255]=some [u64 (IntKind.u64.wrap (BitVec.ofInt 64 a &&& BitVec.ofInt 64 255).toNat)]:=rfl
theorem u_conv {a:Int}:(aT.conv .u64).run [i64 a]=some [u64 (IntKind.u64.wrap a)]:=rfl
theorem Fb2 {a:Int}(h0:0<=a)(h1:a<=255):(aT.conv .i64).run [.int .u8 a]=some [i64 a]:=by
 show some [D.int .i64 (IntKind.i64.wrap a)]=_
 rw[wrap_i64 (by omega) (by omega)]
def Kb4 (a:Int):Int:=IntKind.i64.wrap (IntKind.u64.wrap (BitVec.ofInt 64 a &&& BitVec.ofInt 64 255).toNat)
theorem Ob0 {a:Int}:(aT.conv .i64).run [u64 (IntKind.u64.wrap (BitVec.ofInt 64 a &&& BitVec.ofInt 64 255).toNat)]=some [i64 (Kb4 a)]:=rfl
theorem Ta3 (a:Int):0<=Kb4 a/\Kb4 a<=255:=by
 unfold Kb4
 have h1:(BitVec.ofInt 64 a &&& BitVec.ofInt 64 255).toNat<=255:=by
  rw[BitVec.toNat_and];exact Nat.and_le_right
 generalize (BitVec.ofInt 64 a &&& BitVec.ofInt 64 255).toNat=n at h1;have h2:IntKind.u64.wrap (n:Int)=n:=IntWalk.u64_in n ⟨by omega,by omega⟩;rw[h2,wrap_i64 (by omega) (by omega)];omega
theorem yF {a b:Int}(h0:0<=a)(hb:0<b):(aT.bin .rem).run [i64 a,i64 b]=some [i64 (a % b)]:=by
 simp only[aT.run,Ma9,zK,if_true];rw[if_neg (by omega)];rw[Int.tmod_eq_emod_of_nonneg h0];rfl
theorem Yap {T:Nat->Ent}{β γ:Type}{body:Tm β}{ρ:List D}{init:List aI}(m:γ->Nat)(inv:γ->Prop)(vs:γ->List D)(Q:Kind×List D->Prop)(c0:γ)(h0:init.map (·.val ρ)=vs c0)(hi:inv c0)
  (h:∀ c,inv c->(∃ c',Er T body (ρ++vs c)=some (.cont,vs c')/\inv c'/\m c'<m c)\/(∃ q,Er T body (ρ++vs c)=some q/\q.1≠.cont/\Q q)):∃ q,Er T (.loop init body) ρ=some q/\Q q :=
 Vat (T:=T) (body:=body) (ρ:=ρ) m inv vs Q (fun c hc=>by
  rcases h c hc with ⟨c',h2,h3,h4⟩|⟨q,h2,h3,h4⟩
  ·exact⟨_,h2,.inl ⟨rfl,c',h3,h4,rfl⟩⟩
  ·exact⟨_,h2,.inr ⟨h3,h4⟩⟩) (m c0) c0 (Vb6 _) hi init h0
theorem Nan (n:Int):D.int .u64 n=u64 n:=rfl
theorem Lbl:(∀ {a b:Int},(aT.bin .mul).run [u64 a,.int .u64 b]=some [u64 (IntKind.u64.wrap (a*b))])/\(∀ {a b:Int},(aT.bin .add).run [u64 a,u64 b]=some [u64 (IntKind.u64.wrap (a+b))]) /\
  (∀ {a b:Int},(aT.bin .add).run [u64 a,.int .u64 b]=some [u64 (IntKind.u64.wrap (a+b))])/\(∀ {a:Int},(aT.bin .shr).run [u64 a,.int .u64 40]=some [u64 (a.fdiv (2 ^ 40))]) /\
  (∀ {a:Int},(aT.bin .and).run [u64 a,.int .u64 255]=some [u64 (IntKind.u64.wrap (BitVec.ofInt 64 a &&& BitVec.ofInt 64 255).toNat)])/\(∀ {a:Int},(aT.conv .u64).run [i64 a]=some [u64 (IntKind.u64.wrap a)]) /\
  (∀ {a:Int},(aT.conv .i64).run [u64 (IntKind.u64.wrap (BitVec.ofInt 64 a &&& BitVec.ofInt 64 255).toNat)]=some [i64 (Kb4 a)]):=⟨Obz,Ob2,Ib2,Oby,Ob1,u_conv,Ob0⟩
theorem Ta5 {xs ys:List Int}{m i:Nat}(h:i<m):atI (Cak xs ys m) (i:Int)=max (atI xs (i:Int)) (atI ys (i:Int)):=by
 have hl:i<(Cak xs ys m).length:=by rw[wV];exact h
 rw[bH hl];simp[Cak]
theorem Dae {n:Int}{a:bN}(h:bZ n a=true):(0<=a.seq/\a.seq<=999)/\(a.deps.length:Int)=n/\∀ k:Nat,k<a.deps.length->0<=atI a.deps (k:Int)/\atI a.deps (k:Int)<=6:=by
 simp only[bZ,Vbk,beq_iff_eq,Wbg]at h;exact⟨Har h.1.1,h.1.2,fun k hk=>Har (h.2 _ (at_mem hk))⟩
theorem Dad {n:Int}{a:bN}(h1:0<=a.seq/\a.seq<=999)(h2:(a.deps.length:Int)=n)(h3:∀ k:Nat,k<a.deps.length->0<=atI a.deps (k:Int)/\atI a.deps (k:Int)<=6):bZ n a=true:=by
 simp only[bZ,Vbk,beq_iff_eq,Wbg];refine⟨⟨by simp[inR,h1],h2⟩,fun x hx=>?_⟩;obtain⟨k,hk,rfl⟩:=List.getElem_of_mem hx;have:=h3 k hk;rw[bH hk]at this;simp[inR,this]
theorem pJ {n:Int}{r:bF}(h:rowOk n r=true)(hg:bR n=true):bZ n r.attr=true:=by
 simp only[rowOk,Vbk]at h;have h3:=h.2;have hn:=aL hg;split at h3
 ·simp only[Vbk,decide_eq_true_eq]at h3
  rw[h3.2];refine Dad (by simp[none0]) (by simp[none0];omega) fun k hk=>?_
  rw[bH hk];simp[none0]
 ·simp only[Vbk]at h3
  exact h3.2
theorem Mag {n:Int}{seen:List bF}(hg:bR n=true)(h:∀ r∈seen,rowOk n r=true):∀ m,m<=seen.length->bZ n (sZ n seen m)=true
 | 0, _ => by
  have hn:=aL hg;refine Dad (by simp[sZ,none0]) (by simp[sZ,none0];omega) fun k hk=>?_
  rw[bH hk];simp[sZ,none0]
 | m + 1, hm => by
  obtain⟨h1,h2,h3⟩:=Dae (Mag hg h m (by omega));obtain⟨h4,h5,h6⟩:=Dae (pJ (h _ (at_mem (xs:=seen) (i:=m) (by omega))) hg);rw[Kax];split
  ·refine Dad (by simp only[wX];omega) (by simp only[wX,wV];omega) fun k hk=>?_
   simp only[wX,wV]at hk ⊢;rw[Ta5 hk];have:=h3 k hk;have:=h6 k (by omega);omega
  ·exact Mag hg h m (by omega)
theorem Hb7 {α:Type}[Inhabited α]{xs ys:List α}{k:Int}(h0:0<=k)(h:k<(xs.length:Int)):atI (xs++ys) k=atI xs k:=by
 unfold atI;rw[Vby,Vby,List.getElem?_append_left (by omega)]
theorem Hb6 {α:Type}[Inhabited α]{xs:List α}{a:α}{n:Nat}{k:Int}(h:(xs.length:Int)<=k)(h2:k<(xs.length:Int)+n):atI (xs++Wba n a) k=a:=by
 unfold atI;rw[Vby,List.getElem?_append_right (by omega),List.getElem?_replicate_of_lt (by omega)];rfl
theorem Aa7 {t:aM}{rep no:Int}{r:bF}(h:dZ t=true)(hi:inst t.n rep no=true){k i:Int}(hk:inst t.n k i=true):eF (nY t rep no r) k i=if k=rep/\i=no then r else eF t k i:=by
 obtain⟨r1,r2,r3,r4⟩:=gY hi;obtain⟨k1,k2,k3,k4⟩:=gY hk;have hb:=dQ h hi;have gp:=dQ h hk;have hl:=Ha9 (n:=t.n) (l:=atI t.rows rep) (no:=no) (by omega);unfold eF;simp only[nY];by_cases p0:k=rep
 ·subst p0
  have e:atI (jF t.rows k (jF (ext t.n (atI t.rows k) no) (no-1) r)) k=jF (ext t.n (atI t.rows k) no) (no-1) r:=zN.1 hb;simp only[e,nJ,true_and];by_cases gm:i=no
  ·subst gm
   rw[if_pos (by omega),if_pos rfl];exact zN.1 (by unfold InB;omega)
  ·rw[if_neg gm]
   rw[Abs (by omega) (by omega) (by omega)];by_cases h1:i<=((atI t.rows k).length:Int)
   ·rw[if_pos (by omega),if_pos h1]
    exact Hb7 (by omega) (by omega)
   ·rw[if_neg h1]
    split
    ·exact Hb6 (by omega) (by omega)
    ·rfl
 ·rw[if_neg (fun hc=>p0 hc.1)]
  have e:atI (jF t.rows rep (jF (ext t.n (atI t.rows rep) no) (no-1) r)) k=atI t.rows k:=Abs (by omega) (by omega) (fun e=>p0 e.symm);simp only[e]
theorem Xav {n:Int}(h:bR n=true):rowOk n (row0 n)=true:=by
 have hn:=aL h
 rcases hn with rfl|rfl<;>decide
theorem Wa7 {t:aM}{rep no:Int}{r:bF}(h:dZ t=true)(hi:inst t.n rep no=true)(hr:rowOk t.n r=true):dZ (nY t rep no r)=true:=by
 obtain⟨r1,r2,r3,r4⟩:=gY hi;have hb:=dQ h hi;have hg:=aU h;have hlen:=bX h;have hl:=Ha9 (n:=t.n) (l:=atI t.rows rep) (no:=no) (by omega);obtain⟨h6,tk⟩:=cB h (iW hb);simp only[dZ,nY,Vbk,Wbg,beq_iff_eq,decide_eq_true_eq,nJ];refine⟨⟨hg,hlen⟩,fun l kb=>?_⟩
 rcases La9 kb with kb|rfl
 ·obtain⟨q1,q2⟩:=cB h kb
  exact⟨q2,by omega⟩
 ·refine⟨fun x hx=>?_,by rw[nJ];omega⟩
  rcases La9 hx with hx|rfl
  ·unfold ext at hx
   rcases Vb5.1 hx with hx|hx
   ·exact tk x hx
   ·rw[List.eq_of_mem_replicate hx]
    exact Xav hg
  ·exact hr
theorem Ta1 {b me:Int}(hb:0<=b)(h0:0<=me)(h1:me<=7):b<nb b me/\nb b me % 8=me/\8<=nb b me:=by
 unfold nb;split<;>omega
theorem Aao {x lo hi:Int}:inR x lo hi=true↔lo<=x/\x<=hi:=by simp[inR]
def u8 (c:UInt8):D:=.int .u8 (c.toNat:Nat)
theorem lU {n:Int}{a:bN}(h:bZ n a=true):0<=a.seq/\a.seq<=999/\(a.deps.length:Int)=n/\∀ x∈a.deps,0<=x/\x<=6:=by
 simp only[bZ,inR,Vbk,decide_eq_true_eq,beq_iff_eq,Wbg]at h;exact⟨h.1.1.1,h.1.1.2,h.1.2,fun x hx=>h.2 x hx⟩
def Tap (x y:fC):Bool:=x.kind==y.kind&&x.src==y.src&&x.dst==y.dst&&x.rep==y.rep&&x.no==y.no&&x.ballot==y.ballot&&x.vote==y.vote&&x.state==y.state&&decide (x.cmd=y.cmd)&&decide (x.attr=y.attr)
theorem Ral (x:fC):Tap x x=true:=by simp[Tap]
def prL (y:List Int):Int×Int:=(atI y 0,atI y 1)
def toL (p:Int×Int):List Int:=[p.1,p.2]
theorem Aah {y:List Int}(h:y.length=2):toL (prL y)=y:=by
 match y,h with
 |[a,b],_=>rfl
theorem Xa9 (p:Int×Int):prL (toL p)=p:=rfl
def ltL (y z:List Int):Prop:=ltQ (prL y) (prL z)=true
theorem rW {y z:List Int}:ltL y z↔atI y 0<atI z 0\/(atI y 0=atI z 0/\atI y 1<atI z 1):=wS
def xV (l:List (List Int)):Prop:=l.Pairwise ltL
theorem Bam:∀ {xs ys:List (List Int)},xV xs->xV ys->(∀ x,x∈xs↔x∈ys)->xs=ys
 |[],[],_,_,_=>rfl
 |[],y::ys,_,_,h=>by have:=(h y).2 Vb7;cases this
 |x::xs,[],_,_,h=>by have:=(h x).1 Vb7;cases this
 | x :: xs, y :: ys, hx, hy, h => by
  unfold xV at hx hy;rw[Xbg]at hx hy
  have e:x=y:=by
   rcases Vbu.1 ((h x).1 Vb7) with h1|h1
   ·exact h1
   ·rcases Vbu.1 ((h y).2 Vb7) with h2|h2
    ·exact h2.symm
    ·have h3:=rW.1 (hx.1 y h2)
     have h4:=rW.1 (hy.1 x h1);omega
  subst e;congr 1;refine Bam hx.2 hy.2 fun z=>?_
  constructor
  ·intro hz
   rcases Vbu.1 ((h z).1 (Vb1 _ hz)) with h1|h1
   ·subst h1
    have:=rW.1 (hx.1 z hz);omega
   ·exact h1
  ·intro hz
   rcases Vbu.1 ((h z).2 (Vb1 _ hz)) with h1|h1
   ·subst h1
    have:=rW.1 (hy.1 z hz);omega
   ·exact h1
theorem Ga0 {l:List (List Int)}(h2:∀ y∈l,y.length=2)(hn:l.Nodup):xV ((Na9 id (l.map prL)).map toL)/\∀ y,y∈(Na9 id (l.map prL)).map toL↔y∈l:=by
 have hp:=Kad id (l.map prL);have hs:=Ear id (l.map prL)
 have hnd:(l.map prL).Nodup:=by
  unfold List.Nodup;rw[List.pairwise_map];refine List.Pairwise.imp_of_mem (fun {a b} ha hb sb e=>sb ?_) hn;rw[<- Aah (h2 a ha),<- Aah (h2 b hb),e]
 have a6n:(Na9 id (l.map prL)).Nodup:=hp.nodup_iff.2 hnd;constructor
 ·unfold xV
  rw[List.pairwise_map];have h3:=List.pairwise_and_iff.2 ⟨hs,a6n⟩;refine h3.imp fun {a b} sb=>?_
  unfold ltL;rw[Xa9,Xa9];have h4:ltQ b a=false:=sb.1
  cases h5:ltQ a b with
  |true=>rfl
  |false=>exact absurd (Dbm h5 h4) sb.2
 ·intro y
  rw[Wb3];constructor
  ·rintro⟨p,hp1,rfl⟩
   obtain⟨z,hz,rfl⟩:=Wb3.1 (hp.mem_iff.1 hp1);rw[Aah (h2 z hz)];exact hz
  ·intro hy
   exact⟨prL y,hp.mem_iff.2 (Wb3.2 ⟨y,hy,rfl⟩),Aah (h2 y hy)⟩
def jY (n:Int)(y:List Int):Prop:=y.length=2/\inst n (atI y 0) (atI y 1)=true
def vC (n:Nat):List (List Int):=(Yb1 n).flatMap fun k:Nat=>(Yb1 6).map fun i:Nat=>[(k:Int),(i:Int)+1]
theorem Aa4 {n:Nat}{y:List Int}:y∈vC n↔jY n y:=by
 unfold vC jY;simp only[Zba,Ybu,Wb3];constructor
 ·rintro⟨k,hk,i,hi,rfl⟩
  refine⟨rfl,?_⟩;simp only[atI,inst,inR,Vbk,decide_eq_true_eq];simp;omega
 ·rintro⟨h1,h2⟩
  match y,h1 with
  | [a, b], _ =>
   have h3:=gY h2;simp only[atI]at h3;simp at h3;refine⟨a.toNat,by omega,(b-1).toNat,by omega,?_⟩;rw[show ((a.toNat:Nat):Int)=a by omega,show (((b-1).toNat:Nat):Int)=b-1 by omega,show b-1+1=b by omega]
theorem Sao (n:Nat):(vC n).length=6*n:=by
 unfold vC;rw[List.length_flatMap];simp[List.map_const'];omega
theorem Fam (n:Nat):xV (vC n):=by
 unfold xV vC;rw[List.pairwise_flatMap];refine⟨fun k hk=>?_,?_⟩
 ·rw[List.pairwise_map]
  refine List.pairwise_lt_range.imp fun {a b} sb=>?_
  rw[rW];simp[atI];omega
 ·refine List.pairwise_lt_range.imp fun {a b} sb=>?_
  intro x hx y hy;obtain⟨i,hi,rfl⟩:=Wb3.1 hx;obtain⟨j,hj,rfl⟩:=Wb3.1 hy;rw[rW];simp[atI];omega
theorem sV {α:Type}[DecidableEq α]:∀ {l m:List α},l.Nodup->(∀ x∈l,x∈m)->l.length<=m.length
 |[],_,_,_=>Nat.zero_le _
 | x :: l, m, hn, hs => by
  rw[List.nodup_cons]at hn;have hx:=hs x Vb7
  have:=sV (l:=l) (m:=m.erase x) hn.2 fun y hy=>by
   have cU:y≠x:=fun e=>hn.1 (by rw[<- e];exact hy)
   exact (List.mem_erase_of_ne cU).2 (hs y (Vb1 _ hy))
  have h1:=List.length_erase_of_mem hx;have h2:=List.length_pos_of_mem hx;simp only[Wbb];omega
theorem Gaa {n:Int}{l:List (List Int)}(hg:bR n=true)(hn:l.Nodup)(h:∀ y∈l,jY n y):l.length<=30:=by
 have h1:=aL hg;have e:((n.toNat:Nat):Int)=n:=by omega
 have:=sV hn (m:=vC n.toNat) fun y hy=>Aa4.2 (by rw[e];exact h y hy)
 rw[Sao]at this;omega
def Zaa (k:Int)(m:Nat):List (List Int):=(Yb1 m).map fun i:Nat=>[k,(i:Int)+1]
def Gb9 (deps:List Int)(m:Nat):List (List Int):=(Yb1 m).flatMap fun k:Nat=>Zaa k (atI deps (k:Int)).toNat
def Fau (t:aM)(x:List Int):List (List Int):=Gb9 (eF t (atI x 0) (atI x 1)).attr.deps (eF t (atI x 0) (atI x 1)).attr.deps.length
theorem Pag {deps:List Int}{m:Nat}{y:List Int}:y∈Gb9 deps m↔∃ k i:Nat,k<m/\(i:Int)<atI deps (k:Int)/\y=[(k:Int),(i:Int)+1]:=by
 unfold Gb9 Zaa;simp only[Zba,Ybu,Wb3];constructor
 ·rintro⟨k,hk,i,hi,rfl⟩
  exact⟨k,i,hk,by omega,rfl⟩
 ·rintro⟨k,i,hk,hi,rfl⟩
  exact⟨k,hk,i,by omega,rfl⟩
theorem Va5 {t:aM}(ht:dZ t=true){x y:List Int}(hx:jY t.n x)(hy:y∈Fau t x):jY t.n y:=by
 unfold Fau at hy;obtain⟨k,i,hk,hi,rfl⟩:=Pag.1 hy;have h1:=Wa8 ht hx.2;have h2:=Vap (tT ht hx.2) (aU ht) _ (at_mem hk);refine⟨rfl,?_⟩;simp only[atI,inst,inR,Vbk,decide_eq_true_eq]at h2 ⊢;simp only[atI]at hi;simp;omega
theorem Pa2 {t:aM}{x y:List Int}(hx:x.length=2):y∈Obq t (atI x 0) (atI x 1)↔y∈Fau t x/\y≠x:=by
 unfold Obq Fau;rw[Ebh,Pag]
 match x,hx with
 | [a, b], _ =>
  constructor
  ·rintro⟨k,i,h1,h2,h3,rfl⟩
   refine⟨⟨k,i,h1,h2,rfl⟩,fun e=>h3 ?_⟩;simp only[Xbh,and_true]at e;exact e
  ·rintro⟨⟨k,i,h1,h2,rfl⟩,cU⟩
   refine⟨k,i,h1,h2,fun e=>cU ?_,rfl⟩;have e1:(k:Int)=a:=e.1;have e2:(i:Int)+1=b:=e.2;rw[e1,e2]
def Uak (t:aM)(y:List Int):Bool:=(eF t (atI y 0) (atI y 1)).state==3
inductive Ia8 (t:aM) (x:List Int):List Int->Prop
 |base:Ia8 t x x
 |step {z y:List Int} (h:Ia8 t x z) (hc:Uak t z=true) (hy:y∈Fau t z):Ia8 t x y
theorem Ia8.inst {t:aM}(ht:dZ t=true){x y:List Int}(hx:jY t.n x)(h:Ia8 t x y):jY t.n y:=by
 induction h with
 |base=>exact hx
 |step _ _ hy ih=>exact Va5 ht ih hy
open Classical in
noncomputable def Ias (t:aM)(x:List Int):List (List Int):=(vC t.n.toNat).filter fun y=>decide (Ia8 t x y/\Uak t y=false)
theorem Iar (t:aM)(x:List Int):xV (Ias t x):=by
 unfold Ias;exact (Fam _).filter _
open Classical in
theorem Ka4 {t:aM}(ht:dZ t=true){x y:List Int}(hx:jY t.n x):y∈Ias t x↔Ia8 t x y/\Uak t y=false:=by
 have h1:=aL (aU ht);have e:((t.n.toNat:Nat):Int)=t.n:=by omega
 unfold Ias;rw[Xb2,decide_eq_true_eq,Aa4,e];exact⟨fun h=>h.2,fun h=>⟨h.1.inst ht hx,h⟩⟩
theorem Rag {l:List (List Int)}(h:xV l):l.Nodup:=by
 unfold xV at h;refine h.imp fun {a b} sb e=>?_
 subst e;have:=rW.1 sb;omega
structure BSt where
 met:List (List Int)
 out:List (List Int)
 wait:List (List Int)
def Ka5 (t:aM)(s:BSt)(y:List Int):BSt:=if s.met.any (fun z=>decide (y=z)) then s else if Uak t y then ⟨s.met++[y],s.out,s.wait++[y]⟩ else ⟨s.met++[y],s.out++[y],s.wait⟩
def Obt (t:aM)(s:BSt):BSt:=let r:=(Fau t (atI s.wait 0)).foldl (Ka5 t) s;⟨r.met,r.out,r.wait.drop 1⟩
structure BPre (t:aM) (x:List Int) (s:BSt):Prop where
 base:x∈s.met
 nd:s.met.Nodup
 rch:∀ y∈s.met,Ia8 t x y
 out:∀ y,y∈s.out↔y∈s.met/\Uak t y=false
 ond:s.out.Nodup
 wm:∀ y∈s.wait,y∈s.met/\Uak t y=true
structure BInv (t:aM) (x:List Int) (s:BSt):Prop extends BPre t x s where
 cl:∀ z∈s.met,Uak t z=true->z∈s.wait\/∀ y∈Fau t z,y∈s.met
theorem Ead {l:List (List Int)}{y:List Int}:(l.any fun z=>decide (y=z))=true↔y∈l:=by
 rw[Xb1];constructor
 ·rintro⟨z,h1,h2⟩
  rw[of_decide_eq_true h2];exact h1
 ·exact fun h=>⟨y,h,by simp⟩
theorem Nac {l:List (List Int)}{y:List Int}(h:y∉l):(l.any fun z=>decide (y=z))=false:=by
 cases e:l.any fun z=>decide (y=z) with
 |false=>rfl
 |true=>exact absurd (Ead.1 e) h
theorem sU {l:List (List Int)}{y:List Int}(h:l.Nodup)(hy:y∉l):(l++[y]).Nodup:=by
 rw[List.nodup_append];refine⟨h,by simp,fun a ha b hb e=>?_⟩;rw[Vbp.1 hb]at e;exact hy (e▸ha)
theorem Abm {t:aM}{x:List Int}{s:BSt}(h:BPre t x s){y:List Int}(hy:Ia8 t x y) :
  BPre t x (Ka5 t s y)/\y∈(Ka5 t s y).met/\(∀ z∈s.met,z∈(Ka5 t s y).met)/\(∃ w,(Ka5 t s y).wait=s.wait++w)/\(∀ z∈(Ka5 t s y).met,Uak t z=true->z∈(Ka5 t s y).wait\/z∈s.met) /\
   (Ka5 t s y).wait.length+s.met.length<=s.wait.length+(Ka5 t s y).met.length:=by
 unfold Ka5;by_cases hm:y∈s.met
 ·rw[Ead.2 hm,if_pos rfl]
  exact⟨h,hm,fun z hz=>hz,⟨[],by simp⟩,fun z hz _=>.inr hz,Vb6 _⟩
 ·rw[Nac hm]
  simp only[Vbm,if_false];have ev:∀ z,z∈s.met++[y]↔z∈s.met\/z=y:=fun z=>by simp
  cases hc:Uak t y with
  | true =>
   simp only[if_true];refine⟨⟨Vbo _ h.base,sU h.nd hm,fun z hz=>?_,fun z=>?_,h.ond,fun z hz=>?_⟩,by simp,fun z hz=>Vbo _ hz,⟨[y],rfl⟩,fun z hz _=>?_,by simp<;>omega⟩
   ·rcases (ev z).1 hz with hz|rfl
    ·exact h.rch z hz
    ·exact hy
   ·rw[h.out,ev]
    constructor
    ·exact fun ⟨h1,h2⟩=>⟨.inl h1,h2⟩
    ·rintro⟨h1|rfl,h2⟩
     ·exact⟨h1,h2⟩
     ·rw[hc]at h2;cases h2
   ·rcases Vb5.1 hz with hz|hz
    ·exact⟨Vbo _ (h.wm z hz).1,(h.wm z hz).2⟩
    ·rw[Vbp.1 hz]
     exact⟨by simp,hc⟩
   ·rcases (ev z).1 hz with hz|rfl
    ·exact .inr hz
    ·exact .inl (by simp)
  | false =>
   simp only[Vbm,if_false];refine⟨⟨Vbo _ h.base,sU h.nd hm,fun z hz=>?_,fun z=>?_,sU h.ond (fun hz=>hm ((h.out y).1 hz).1),fun z hz=>?_⟩,by simp,fun z hz=>Vbo _ hz,⟨[],by simp⟩,fun z hz hcz=>?_,by simp<;>omega⟩
   ·rcases (ev z).1 hz with hz|rfl
    ·exact h.rch z hz
    ·exact hy
   ·rw[Vb5,h.out,ev,Vbp]
    constructor
    ·rintro (⟨h1,h2⟩|rfl)
     ·exact⟨.inl h1,h2⟩
     ·exact⟨.inr rfl,hc⟩
    ·rintro⟨h1|rfl,h2⟩
     ·exact .inl ⟨h1,h2⟩
     ·exact .inr rfl
   ·exact⟨Vbo _ (h.wm z hz).1,(h.wm z hz).2⟩
   ·rcases (ev z).1 hz with hz|rfl
    ·exact .inr hz
    ·rw[hc]at hcz;cases hcz
theorem Qab {t:aM}{x:List Int}:∀ {ys:List (List Int)} {s:BSt},BPre t x s->(∀ y∈ys,Ia8 t x y) ->
  BPre t x (ys.foldl (Ka5 t) s)/\(∀ y∈ys,y∈(ys.foldl (Ka5 t) s).met)/\(∀ z∈s.met,z∈(ys.foldl (Ka5 t) s).met)/\(∃ w,(ys.foldl (Ka5 t) s).wait=s.wait++w)/\(∀ z∈(ys.foldl (Ka5 t) s).met,Uak t z=true->z∈(ys.foldl (Ka5 t) s).wait\/z∈s.met) /\
   (ys.foldl (Ka5 t) s).wait.length+s.met.length<=s.wait.length+(ys.foldl (Ka5 t) s).met.length
 |[],s,h,_=>⟨h,by simp,fun z hz=>hz,⟨[],by simp⟩,fun z hz _=>.inr hz,Vb6 _⟩
 | y :: ys, s, h, hr => by
  obtain⟨h1,h2,h3,⟨w,h4⟩,h5,h6⟩:=Abm h (hr y Vb7);obtain⟨k1,k2,k3,⟨w',k4⟩,k5,k6⟩:=Qab (ys:=ys) h1 fun z hz=>hr z (Vb1 _ hz)
  rw[Xb4];refine⟨k1,fun z hz=>?_,fun z hz=>k3 z (h3 z hz),⟨w++w',by rw[k4,h4,Vbx]⟩,fun z hz hc=>?_,by omega⟩
  ·rcases Vbu.1 hz with rfl|hz
   ·exact k3 _ h2
   ·exact k2 z hz
  ·rcases k5 z hz hc with h7|h7
   ·exact .inl h7
   ·rcases h5 z h7 hc with h8|h8
    ·exact .inl (by rw[k4];exact Vbo _ h8)
    ·exact .inr h8
theorem BInv.step {t:aM}{x:List Int}{s:BSt}(h:BInv t x s)(hw:s.wait≠[]):BInv t x (Obt t s)/\(Obt t s).wait.length+s.met.length<s.wait.length+(Obt t s).met.length:=by
 obtain⟨z,w,e⟩:∃ z w,s.wait=z::w:=by
  cases hs:s.wait with
  |nil=>exact absurd hs hw
  |cons z w=>exact⟨z,w,rfl⟩
 have np:atI s.wait 0=z:=by rw[e];rfl
 obtain⟨hzm,q8⟩:=h.wm z (by rw[e];exact Vb7);have hr:∀ y∈Fau t z,Ia8 t x y:=fun y hy=>.step (h.rch z hzm) q8 hy
 obtain⟨k1,k2,k3,⟨w',k4⟩,k5,k6⟩:=Qab (ys:=Fau t z) h.toBPre hr;have k4':((Fau t z).foldl (Ka5 t) s).wait.drop 1=w++w':=by rw[k4,e];rfl
 unfold Obt;rw[np];dsimp only;refine⟨⟨⟨k1.base,k1.nd,k1.rch,k1.out,k1.ond,fun y hy=>k1.wm y (Xbj hy)⟩,fun y hy hc=>?_⟩,?_⟩
 ·dsimp only at hy ⊢
  by_cases hyz:y=z
  ·subst hyz
   exact .inr k2
  ·rw[k4']
   rcases k5 y hy hc with h1|h1
   ·rw[k4,e]at h1
    rcases Vb5.1 h1 with h1|h1
    ·rcases Vbu.1 h1 with h1|h1
     ·exact absurd h1 hyz
     ·exact .inl (Vbo _ h1)
    ·exact .inl (Vbr _ h1)
   ·rcases h.cl y h1 hc with h2|h2
    ·rw[e]at h2
     rcases Vbu.1 h2 with h2|h2
     ·exact absurd h2 hyz
     ·exact .inl (Vbo _ h2)
    ·exact .inr fun u hu=>k3 u (h2 u hu)
 ·have:0<((Fau t z).foldl (Ka5 t) s).wait.length:=by rw[k4,e];simp<;>omega
  rw[Wb4];omega
theorem BInv.done {t:aM}(ht:dZ t=true){x:List Int}(hx:jY t.n x){s:BSt}(h:BInv t x s)(hw:s.wait=[]):(Na9 id (s.out.map prL)).map toL=Ias t x:=by
 have cT:∀ y,Ia8 t x y->y∈s.met:=by
  intro y hy
  induction hy with
  |base=>exact h.base
  | step _ hc hy ih =>
   rcases h.cl _ ih hc with h1|h1
   ·rw[hw]at h1;cases h1
   ·exact h1 _ hy
 obtain⟨h1,h2⟩:=Ga0 (l:=s.out) (fun y hy=>((h.rch y ((h.out y).1 hy).1).inst ht hx).1) h.ond;refine Bam h1 (Iar t x) fun y=>?_
 rw[h2,h.out,Ka4 ht hx];exact⟨fun ⟨h3,h4⟩=>⟨h.rch y h3,h4⟩,fun ⟨h3,h4⟩=>⟨cT y h3,h4⟩⟩
theorem BPre.len {t:aM}(ht:dZ t=true){x:List Int}(hx:jY t.n x){s:BSt}(h:BPre t x s):s.met.length<=30/\s.out.length<=30:=by
 have h1:=Gaa (aU ht) h.nd fun y hy=>(h.rch y hy).inst ht hx
 have h2:=Gaa (aU ht) h.ond fun y hy=>(h.rch y ((h.out y).1 hy).1).inst ht hx
 exact⟨h1,h2⟩
def gtL (y x:List Int):Bool:=decide (atI x 0<atI y 0)||((atI y 0==atI x 0)&&decide (atI x 1<atI y 1))
def Gab (l:List (List Int))(x:List Int):Nat->Nat
 |0=>0
 |k+1=>if gtL (atI l (k:Int)) x then Gab l x k else k+1
def Lbc (l:List (List Int))(x:List Int):List (List Int):=l.take (Gab l x l.length)++[x]++l.drop (Gab l x l.length)
theorem Ya4 (l:List (List Int))(x:List Int):∀ m,Gab l x m<=m
 |0=>Vb6 _
 | m + 1 => by
  unfold Gab;split
  ·exact Nat.le_succ_of_le (Ya4 l x m)
  ·exact Vb6 _
theorem Ya5 {l:List (List Int)}{x:List Int}:∀ {m j:Nat},Gab l x m<=j->j<m->gtL (atI l (j:Int)) x=true
 |0,j,_,h=>by omega
 | m + 1, j, h, hj => by
  unfold Gab at h;split at h
  ·rename_i hg
   rcases Wbc j m with h1|h1
   ·exact Ya5 h h1
   ·obtain rfl:j=m:=by omega
    exact hg
  ·omega
theorem Ya3 {l:List (List Int)}{x:List Int}:∀ {m:Nat},0<Gab l x m->gtL (atI l ((Gab l x m-1:Nat):Int)) x=false
 |0,h=>by simp[Gab]at h
 | m + 1, h => by
  unfold Gab at h ⊢;split
  ·rename_i hg
   rw[if_pos hg]at h;exact Ya3 h
  ·rename_i hg
   simpa using hg
theorem Zad {y x:List Int}:gtL y x=true↔ltL x y:=by
 rw[rW];unfold gtL;simp only[Wb9,Vbk,decide_eq_true_eq,beq_iff_eq];omega
theorem Mam {l:List (List Int)}{x y:List Int}:y∈Lbc l x↔y∈l\/y=x:=by
 unfold Lbc
 have e:∀ k,y∈l.take k++[x]++l.drop k↔y∈l\/y=x:=by
  intro k;have h:=Xbs k l;rw[Vbx,Vb5,Vb5,Vbp];constructor
  ·rintro (h1|h1|h1)
   ·exact .inl (Yba h1)
   ·exact .inr h1
   ·exact .inl (Xbj h1)
  ·rintro (h1|h1)
   ·rw[<- h]at h1
    rcases Vb5.1 h1 with h1|h1
    ·exact .inl h1
    ·exact .inr (.inr h1)
   ·exact .inr (.inl h1)
 exact e _
theorem Ya2 {l:List (List Int)}{x:List Int}(h:xV l)(h2:∀ y∈l,y.length=2)(qe:x.length=2)(hx:x∉l):xV (Lbc l x):=by
 have hk:=Ya4 l x l.length;have gk:=Xbs (Gab l x l.length) l
 have mB:∀ y∈l.take (Gab l x l.length),ltL y x:=by
  intro y hy;obtain⟨j,hj⟩:=Wb8.1 hy
  have lq:j<Gab l x l.length:=by
   have:=(Vbn.1 hj).1;rw[Wbh]at this;omega
  rw[List.getElem?_take,if_pos lq]at hj;have x9:=Ya3 (l:=l) (x:=x) (m:=l.length) (by omega);have ji:Gab l x l.length-1<l.length:=by omega
  rw[bH ji]at x9;have vq:¬ ltL x l[Gab l x l.length-1]:=fun e=>by rw[<- Zad,x9]at e;cases e
  have cU:l[Gab l x l.length-1]≠x:=fun e=>hx (e▸Xbb ji)
  have nh:ltL l[Gab l x l.length-1] x:=by
   rw[rW]at vq ⊢;have kb:=h2 _ (Xbb ji);generalize l[Gab l x l.length-1]=z at vq cU kb ⊢
   have hz:¬ (atI z 0=atI x 0/\atI z 1=atI x 1):=by
    rintro⟨e1,e2⟩
    match z,x,kb,qe with
    | [a, b], [c, d], _, _ =>
     have e1':a=c:=e1;have e2':b=d:=e2;exact cU (by rw[e1',e2'])
   omega
  rcases Wbc j (Gab l x l.length-1) with h1|h1
  ·unfold xV at h
   rw[Xbm]at h;have a5o:j<l.length:=by omega
   have h3:=h j (Gab l x l.length-1) a5o ji h1;rw[(Vbn.1 hj).2]at h3;rw[rW]at h3 nh ⊢;omega
  ·have e:j=Gab l x l.length-1:=by omega
   subst e;rw[(Vbn.1 hj).2]at nh;exact nh
 have r6:∀ y∈l.drop (Gab l x l.length),ltL x y:=by
  intro y hy;obtain⟨j,hj⟩:=Wb8.1 hy;rw[List.getElem?_drop]at hj;have lq:=(Vbn.1 hj).1;have:=Ya5 (l:=l) (x:=x) (m:=l.length) (j:=Gab l x l.length+j) (by omega) lq;rw[bH lq,(Vbn.1 hj).2]at this;exact Zad.1 this
 unfold Lbc xV;unfold xV at h;rw[<- gk,List.pairwise_append]at h;rw[Vbx,List.pairwise_append];refine⟨h.1,?_,fun a ha b hb=>?_⟩
 ·rw[List.singleton_append,Xbg]
  exact⟨r6,h.2.1⟩
 ·rcases Vb5.1 hb with hb|hb
  ·rw[Vbp.1 hb]
   exact mB a ha
  ·exact h.2.2 a ha b hb
structure SSt where
 met:List (List Int)
 out:List (List Int)
def Wax (t:aM)(s:SSt)(y:List Int):SSt:=if s.met.any (fun z=>decide (y=z))||s.out.any (fun z=>decide (y=z)) then s else if Uak t y then ⟨s.met++[y],s.out⟩ else ⟨s.met,Lbc s.out y⟩
def Qba (t:aM)(s:SSt)(i:Nat):SSt:=(Obq t (atI (atI s.met (i:Int)) 0) (atI (atI s.met (i:Int)) 1)).foldl (Wax t) s
structure SPre (t:aM) (x:List Int) (s:SSt):Prop where
 base:x∈s.met
 nd:s.met.Nodup
 rch:∀ y∈s.met,Ia8 t x y/\Uak t y=true
 och:∀ y∈s.out,Ia8 t x y/\Uak t y=false
 srt:xV s.out
structure Lbn (t:aM) (x:List Int) (i:Nat) (s:SSt):Prop extends SPre t x s where
 le:i<=s.met.length
 cl:∀ j,j<i->∀ y∈Fau t (atI s.met (j:Int)),y∈s.met\/y∈s.out
theorem Xal {t:aM}(ht:dZ t=true){x:List Int}(hx:jY t.n x){s:SSt}(h:SPre t x s){y:List Int}(hy:Ia8 t x y) :
  SPre t x (Wax t s y)/\(y∈(Wax t s y).met\/y∈(Wax t s y).out)/\(∃ m,(Wax t s y).met=s.met++m)/\(∀ z∈s.out,z∈(Wax t s y).out):=by
 unfold Wax;by_cases hm:y∈s.met
 ·rw[Ead.2 hm,Bool.true_or,if_pos rfl]
  exact⟨h,.inl hm,⟨[],by simp⟩,fun z hz=>hz⟩
 ·by_cases ho:y∈s.out
  ·rw[Ead.2 ho,Xbw,if_pos rfl]
   exact⟨h,.inr ho,⟨[],by simp⟩,fun z hz=>hz⟩
  ·rw[Nac hm,Nac ho]
   simp only[Bool.or_false,Vbm,if_false]
   cases hc:Uak t y with
   | true =>
    simp only[if_true];refine⟨⟨Vbo _ h.base,sU h.nd hm,fun z hz=>?_,h.och,h.srt⟩,.inl (by simp),⟨[y],rfl⟩,fun z hz=>hz⟩
    rcases Vb5.1 hz with hz|hz
    ·exact h.rch z hz
    ·rw[Vbp.1 hz];exact⟨hy,hc⟩
   | false =>
    simp only[Vbm,if_false];refine⟨⟨h.base,h.nd,h.rch,fun z hz=>?_,Ya2 h.srt (fun z hz=>((h.och z hz).1.inst ht hx).1) (hy.inst ht hx).1 ho⟩,.inr (Mam.2 (.inr rfl)),⟨[],by simp⟩,fun z hz=>Mam.2 (.inl hz)⟩
    rcases Mam.1 hz with hz|rfl
    ·exact h.och z hz
    ·exact⟨hy,hc⟩
theorem Na4 {t:aM}(ht:dZ t=true){x:List Int}(hx:jY t.n x):∀ {ys:List (List Int)} {s:SSt},SPre t x s->(∀ y∈ys,Ia8 t x y) ->
  SPre t x (ys.foldl (Wax t) s)/\(∀ y∈ys,y∈(ys.foldl (Wax t) s).met\/y∈(ys.foldl (Wax t) s).out)/\(∃ m,(ys.foldl (Wax t) s).met=s.met++m)/\(∀ z∈s.out,z∈(ys.foldl (Wax t) s).out)
 |[],s,h,_=>⟨h,by simp,⟨[],by simp⟩,fun z hz=>hz⟩
 | y :: ys, s, h, hr => by
  obtain⟨h1,h2,⟨m,h3⟩,h4⟩:=Xal ht hx h (hr y Vb7);obtain⟨k1,k2,⟨m',k3⟩,k4⟩:=Na4 ht hx (ys:=ys) h1 fun z hz=>hr z (Vb1 _ hz)
  rw[Xb4];refine⟨k1,fun z hz=>?_,⟨m++m',by rw[k3,h3,Vbx]⟩,fun z hz=>k4 z (h4 z hz)⟩
  rcases Vbu.1 hz with rfl|hz
  ·rcases h2 with h2|h2
   ·exact .inl (by rw[k3];exact Vbo _ h2)
   ·exact .inr (k4 _ h2)
  ·exact k2 z hz
theorem Ebv {α:Type}[Inhabited α]{l m:List α}{j:Nat}(h:j<l.length):atI (l++m) (j:Int)=atI l (j:Int):=by
 rw[bH h,bH (by rw[Vbw];omega),Yb3 h]
theorem Lbn.step {t:aM}(ht:dZ t=true){x:List Int}(hx:jY t.n x){i:Nat}{s:SSt}(h:Lbn t x i s)(hi:i<s.met.length):Lbn t x (i+1) (Qba t s i):=by
 have hzm:=at_mem hi;obtain⟨hzr,q8⟩:=h.rch _ hzm;have nj:=(hzr.inst ht hx).1;unfold Qba;obtain⟨k1,k2,⟨m,k3⟩,k4⟩:=Na4 ht hx (ys:=Obq t (atI (atI s.met (i:Int)) 0) (atI (atI s.met (i:Int)) 1)) h.toSPre fun y hy=>.step hzr q8 ((Pa2 nj).1 hy).1
 refine⟨k1,by rw[k3,Vbw];omega,fun j hj y hy=>?_⟩;have lq:j<s.met.length:=by omega
 rw[k3,Ebv lq]at hy
 rcases Wbc j i with hji|hji
 ·rcases h.cl j hji y hy with h1|h1
  ·exact .inl (by rw[k3];exact Vbo _ h1)
  ·exact .inr (k4 y h1)
 ·obtain rfl:j=i:=by omega
  by_cases e:y=atI s.met (j:Int)
  ·exact .inl (by rw[k3,e];exact Vbo _ hzm)
  ·exact k2 y ((Pa2 nj).2 ⟨hy,e⟩)
theorem Lbn.done {t:aM}(ht:dZ t=true){x:List Int}(hx:jY t.n x){s:SSt}(h:Lbn t x s.met.length s):s.out=Ias t x:=by
 have cT:∀ y,Ia8 t x y->y∈s.met\/y∈s.out:=by
  intro y hy
  induction hy with
  |base=>exact .inl h.base
  | step _ hc hy ih =>
   rcases ih with h1|h1
   ·obtain⟨j,hj,e⟩:=Xbc.1 h1
    refine h.cl j hj _ ?_;rw[bH hj,e];exact hy
   ·rw[(h.och _ h1).2]at hc;cases hc
 refine Bam h.srt (Iar t x) fun y=>?_
 rw[Ka4 ht hx];refine⟨h.och y,fun ⟨h1,h2⟩=>?_⟩
 rcases cT y h1 with h3|h3
 ·rw[(h.rch y h3).2]at h2;cases h2
 ·exact h3
theorem SPre.len {t:aM}(ht:dZ t=true){x:List Int}(hx:jY t.n x){s:SSt}(h:SPre t x s):s.met.length<=30/\s.out.length<=30:=by
 have h1:=Gaa (aU ht) h.nd fun y hy=>(h.rch y hy).1.inst ht hx
 have h2:=Gaa (aU ht) (Rag h.srt) fun y hy=>(h.och y hy).1.inst ht hx
 exact⟨h1,h2⟩
noncomputable def Vbh (t:aM)(x:List Int):Bool:=decide ((0:Int)<((Ias t x).length:Nat))
noncomputable def Oan (t:aM):List (List Int):=(Ibs t.rows).filter fun x=>!Vbh t x
def GOk (G:List (List Int)):Prop:=∀ r∈G,∀ x∈r,InB G x
inductive Rch (G:List (List Int)) (a:Int):Int->Prop
 |refl:Rch G a a
 |step {b c:Int}:Rch G a b->c∈atI G b->Rch G a c
theorem GOk.out {G:List (List Int)}(hg:GOk G){b c:Int}(hb:InB G b)(hc:c∈atI G b):InB G c:=hg _ (iW hb) c hc
theorem Rch.inb {G:List (List Int)}(hg:GOk G){a b:Int}(ha:InB G a)(h:Rch G a b):InB G b:=by
 induction h with
 |refl=>exact ha
 |step _ hc ih=>exact hg.out ih hc
theorem Rch.trans {G:List (List Int)}{a b c:Int}(h:Rch G a b)(h2:Rch G b c):Rch G a c:=by
 induction h2 with
 |refl=>exact h
 |step _ hc ih=>exact .step ih hc
def nums (n:Nat):List Int:=(Yb1 n).map fun k:Nat=>(k:Int)
theorem Tay (n:Nat):(nums n).length=n:=by simp[nums]
theorem Fa7 {n:Nat}{x:Int}:x∈nums n↔0<=x/\x<n:=by
 unfold nums;rw[Wb3];constructor
 ·rintro⟨k,hk,rfl⟩
  rw[Ybu]at hk;omega
 ·rintro⟨h1,h2⟩
  exact⟨x.toNat,Ybu.2 (by omega),by omega⟩
theorem Rau (n:Nat):nX (nums n):=by
 unfold nums nX;rw[List.pairwise_map];exact List.pairwise_lt_range.imp fun {a b} h=>by omega
theorem Eat {l:List Int}(h:nX l):l.Nodup:=by
 unfold nX at h;exact h.imp fun {a b} sb e=>by omega
open Classical in
noncomputable def Kbv (G:List (List Int))(a j:Int):Bool:=decide (Rch G a j)
theorem La1 {G:List (List Int)}{a j:Int}:Kbv G a j=true↔Rch G a j:=by
 classical
 unfold Kbv;exact decide_eq_true_iff
noncomputable def Vas (G:List (List Int))(a:Int):List Int:=(nums G.length).filter (Kbv G a)
theorem Aak (G:List (List Int))(a:Int):nX (Vas G a):=by
 unfold Vas nX;exact List.Pairwise.filter _ (Rau _)
theorem uH {G:List (List Int)}(hg:GOk G){a j:Int}(ha:InB G a):j∈Vas G a↔Rch G a j:=by
 unfold Vas;rw[Xb2,La1,Fa7];exact⟨fun h=>h.2,fun h=>⟨h.inb hg ha,h⟩⟩
structure GSt where
 marks:List Bool
 todo:List Int
def GSt.left (s:GSt):Nat:=s.todo.length+s.marks.countP fun b=>!b
def gI (s:GSt)(c:Int):GSt:=if atI s.marks c then s else ⟨jF s.marks c true,s.todo++[c]⟩
def gO (G:List (List Int))(s:GSt):GSt:=⟨((atI G (atI s.todo 0)).foldl gI s).marks,((atI G (atI s.todo 0)).foldl gI s).todo.drop 1⟩
structure GPre (G:List (List Int)) (a:Int) (s:GSt):Prop where
 len:s.marks.length=G.length
 rch:∀ j,InB G j->atI s.marks j=true->Rch G a j
 sta:InB G a
 st:atI s.marks a=true
 tm:∀ x∈s.todo,InB G x/\atI s.marks x=true
 cnt:s.left<=G.length
structure GInv (G:List (List Int)) (a:Int) (s:GSt):Prop extends GPre G a s where
 cl:∀ j,InB G j->atI s.marks j=true->j∉s.todo->∀ c∈atI G j,atI s.marks c=true
theorem sK {α:Type}[Inhabited α]{xs:List α}{j k:Int}{x:α}(hj:0<=j)(hk:0<=k)(h:j≠k):atI (jF xs k x) j=atI xs j:=by
 have:k.toNat≠j.toNat:=by omega
 unfold atI jF;rw[Vby,Vby,List.getElem?_set_ne this]
theorem wE {α:Type}[Inhabited α]{xs:List α}{k:Int}{x:α}(h:InB xs k):atI (jF xs k x) k=x:=zN.1 h
theorem Iai:∀ {l:List Bool} {i:Nat},i<l.length->l.getD i default=false->(l.set i true).countP (fun b=>!b)+1=l.countP fun b=>!b
 |[],i,h,_=>by simp at h
 | b :: l, 0, _, h => by
  have hb:b=false:=h;subst hb;simp
 | b :: l, i + 1, h, h2 => by
  have:=Iai (l:=l) (i:=i) (by simpa using h) h2;simp only[List.set_cons_succ,List.countP_cons];omega
theorem Hbi {G:List (List Int)}{a:Int}{s:GSt}(h:GPre G a s){c:Int}(hc:InB G c)(hr:Rch G a c) :
  GPre G a (gI s c)/\(∀ j,InB G j->atI s.marks j=true->atI (gI s c).marks j=true)/\atI (gI s c).marks c=true/\(∃ w,(gI s c).todo=s.todo++w)/\(∀ j,InB G j->atI (gI s c).marks j=true->atI s.marks j=true\/j∈(gI s c).todo)/\(gI s c).left=s.left:=by
 unfold gI
 cases hm:atI s.marks c with
 |true=>exact⟨h,fun _ _ hj=>hj,hm,⟨[],by simp⟩,fun _ _ hj=>.inl hj,rfl⟩
 | false =>
  have rk:InB s.marks c:=by unfold InB at hc ⊢;rw[h.len];exact hc
  have tl:∀ j,InB G j->atI s.marks j=true->atI (jF s.marks c true) j=true:=by
   intro j hj kn;by_cases e:j=c
   ·subst e;exact wE rk
   ·rw[sK hj.1 hc.1 e];exact kn
  have uk:GSt.left ⟨jF s.marks c true,s.todo++[c]⟩=s.left:=by
   unfold GSt.left jF;have:=Iai (l:=s.marks) (i:=c.toNat) rk.lt hm;simp only[Vbw,Wbb,List.length_nil];omega
  simp only[Vbm,if_false];refine⟨⟨by dsimp only;rw[nJ];exact h.len,fun j hj kn=>?_,h.sta,tl a h.sta h.st,fun x hx=>?_,by rw[uk];exact h.cnt⟩,tl,wE rk,⟨[c],rfl⟩,fun j hj kn=>?_,uk⟩
  ·by_cases e:j=c
   ·subst e;exact hr
   ·dsimp only at kn
    rw[sK hj.1 hc.1 e]at kn;exact h.rch j hj kn
  ·rcases Vb5.1 hx with hx|hx
   ·exact⟨(h.tm x hx).1,tl x (h.tm x hx).1 (h.tm x hx).2⟩
   ·rw[Vbp]at hx
    subst hx;exact⟨hc,wE rk⟩
  ·by_cases e:j=c
   ·subst e;exact .inr (by simp)
   ·try dsimp only at kn
    rw[sK hj.1 hc.1 e]at kn;exact .inl kn
theorem Zag {G:List (List Int)}{a:Int}:∀ {ys:List Int} {s:GSt},GPre G a s->(∀ c∈ys,InB G c/\Rch G a c) ->
  GPre G a (ys.foldl gI s)/\(∀ j,InB G j->atI s.marks j=true->atI (ys.foldl gI s).marks j=true)/\(∀ c∈ys,atI (ys.foldl gI s).marks c=true)/\(∃ w,(ys.foldl gI s).todo=s.todo++w)/\(∀ j,InB G j->atI (ys.foldl gI s).marks j=true->atI s.marks j=true\/j∈(ys.foldl gI s).todo)/\(ys.foldl gI s).left=s.left
 |[],s,h,_=>⟨h,fun _ _ hj=>hj,fun _ hc=>(by cases hc),⟨[],by simp⟩,fun _ _ hj=>.inl hj,rfl⟩
 | y :: ys, s, h, hy => by
  obtain⟨h1,h2⟩:=hy y Vb7;obtain⟨k1,k2,k3,⟨w1,k4⟩,k5,k6⟩:=Hbi h h1 h2;obtain⟨l1,l2,l3,⟨w2,l4⟩,l5,l6⟩:=Zag (ys:=ys) k1 fun c hc=>hy c (Vb1 _ hc)
  rw[Xb4];refine⟨l1,fun j hj kn=>l2 j hj (k2 j hj kn),fun c hc=>?_,⟨w1++w2,by rw[l4,k4,Vbx]⟩,fun j hj kn=>?_,by rw[l6,k6]⟩
  ·rcases Vbu.1 hc with hc|hc
   ·subst hc;exact l2 c h1 k3
   ·exact l3 c hc
  ·rcases l5 j hj kn with h3|h3
   ·rcases k5 j hj h3 with h4|h4
    ·exact .inl h4
    ·exact .inr (by rw[l4];exact Vbo _ h4)
   ·exact .inr h3
theorem GInv.step {G:List (List Int)}(hg:GOk G){a:Int}{s:GSt}(h:GInv G a s)(hw:s.todo≠[]):GInv G a (gO G s)/\(gO G s).left+1=s.left/\GPre G a ((atI G (atI s.todo 0)).foldl gI s):=by
 have hb:InB s.todo 0:=by
  have:=List.length_pos_iff.2 hw;unfold InB;omega
 obtain⟨z1,z2⟩:=h.tm _ (iW hb);have zr:=h.rch _ z1 z2;have zc:∀ c∈atI G (atI s.todo 0),InB G c/\Rch G a c:=fun c hc=>⟨hg.out z1 hc,.step zr hc⟩
 obtain⟨l1,l2,l3,⟨w,l4⟩,l5,l6⟩:=Zag h.toGPre zc
 obtain⟨t,ht⟩:∃ t,s.todo=atI s.todo 0::t:=by
  cases e:s.todo with
  |nil=>exact absurd e hw
  |cons x t=>exact⟨t,rfl⟩
 unfold gO;generalize atI s.todo 0=z at *;generalize (atI G z).foldl gI s=u at *;rw[ht,List.cons_append]at l4
 have a18:GSt.left ⟨u.marks,u.todo.drop 1⟩+1=s.left:=by
  rw[<- l6];unfold GSt.left;rw[l4];simp only[List.drop_succ_cons,List.drop_zero,Wbb];omega
 refine⟨⟨⟨l1.len,l1.rch,l1.sta,l1.st,fun x hx=>l1.tm x (Xbj hx),by have:=h.cnt;omega⟩,fun j hj kn hj3 c hc=>?_⟩,a18,l1⟩;dsimp only at kn hj3 ⊢;by_cases e:j=z
 ·subst e
  exact l3 c hc
 ·have hju:j∉u.todo:=by
   rw[l4]at hj3 ⊢;intro hm
   rcases Vbu.1 hm with h1|h1
   ·exact e h1
   ·exact hj3 (by simpa using h1)
  rcases l5 j hj kn with h1|h1
  ·have h2:j∉s.todo:=fun hm=>hju (by
    rw[ht]at hm;rw[l4]
    rcases Vbu.1 hm with h1|h1
    ·exact absurd h1 e
    ·exact Vb1 _ (Vbo _ h1))
   exact l2 c (hg.out hj hc) (h.cl j hj h1 h2 c hc)
  ·exact absurd h1 hju
theorem GInv.done {G:List (List Int)}(hg:GOk G){a:Int}{s:GSt}(h:GInv G a s)(hw:s.todo=[]){j:Int}(hj:InB G j):atI s.marks j=Kbv G a j:=by
 have cT:∀ b,Rch G a b->InB G b/\atI s.marks b=true:=by
  intro b hb
  induction hb with
  |refl=>exact⟨h.sta,h.st⟩
  |step _ hc ih=>exact⟨hg.out ih.1 hc,h.cl _ ih.1 ih.2 (by rw[hw];simp) _ hc⟩
 rw[Bool.eq_iff_iff,La1];exact⟨h.rch j hj,fun hr=>(cT j hr).2⟩
structure HSt where
 met:List Int
 que:List Int
def hI (s:HSt)(c:Int):HSt:=if uN s.que c then s else ⟨Had s.met c,s.que++[c]⟩
theorem oV {xs:List Int}{n:Int}:uN xs n=true↔n∈xs:=by
 unfold uN;rw[Xb1];constructor
 ·rintro⟨x,hx,e⟩
  rw[<- beq_iff_eq.1 e];exact hx
 ·exact fun h=>⟨n,h,by simp⟩
structure HPre (G:List (List Int)) (a:Int) (s:HSt):Prop where
 rch:∀ x∈s.que,Rch G a x
 nd:s.que.Nodup
 srt:nX s.met
 eq:∀ x,x∈s.met↔x∈s.que
 sta:InB G a
 st:a∈s.que
structure Lbq (G:List (List Int)) (a:Int) (i:Nat) (s:HSt):Prop extends HPre G a s where
 le:i<=s.que.length
 cl:∀ k:Nat,k<i->∀ c∈atI G (atI s.que (k:Int)),c∈s.que
theorem HPre.len {G:List (List Int)}(hg:GOk G){a:Int}{s:HSt}(h:HPre G a s):s.que.length<=G.length/\s.met.length<=G.length:=by
 have h1:∀ x∈s.que,x∈nums G.length:=fun x hx=>Fa7.2 ((h.rch x hx).inb hg h.sta)
 have h2:=sV h.nd h1;have h3:=sV (Eat h.srt) fun x hx=>h1 x ((h.eq x).1 hx)
 rw[Tay]at h2 h3;exact⟨h2,h3⟩
theorem Hbb {G:List (List Int)}{a:Int}{s:HSt}(h:HPre G a s){c:Int}(hr:Rch G a c):HPre G a (hI s c)/\c∈(hI s c).que/\∃ w,(hI s c).que=s.que++w:=by
 unfold hI
 cases hm:uN s.que c with
 |true=>exact⟨h,oV.1 hm,[],by simp⟩
 | false =>
  have hn:c∉s.que:=fun e=>by rw[oV.2 e]at hm;cases hm
  simp only[Vbm,if_false];refine⟨⟨fun x hx=>?_,?_,Hac h.srt,fun x=>?_,h.sta,Vbo _ h.st⟩,by simp,[c],rfl⟩
  ·rcases Vb5.1 hx with hx|hx
   ·exact h.rch x hx
   ·rw[Vbp.1 hx];exact hr
  ·exact List.nodup_append.2 ⟨h.nd,by simp,fun x hx y hy e=>hn (by rw[Vbp]at hy;rw[<- hy,<- e];exact hx)⟩
  ·rw[La4,h.eq]
   simp
theorem Zac {G:List (List Int)}{a:Int}:∀ {ys:List Int} {s:HSt},HPre G a s->(∀ c∈ys,Rch G a c)->HPre G a (ys.foldl hI s)/\(∀ c∈ys,c∈(ys.foldl hI s).que)/\∃ w,(ys.foldl hI s).que=s.que++w
 |[],s,h,_=>⟨h,fun _ hc=>(by cases hc),[],by simp⟩
 | y :: ys, s, h, hy => by
  obtain⟨k1,k2,w1,k3⟩:=Hbb h (hy y Vb7);obtain⟨l1,l2,w2,l3⟩:=Zac (ys:=ys) k1 fun c hc=>hy c (Vb1 _ hc)
  rw[Xb4];refine⟨l1,fun c hc=>?_,w1++w2,by rw[l3,k3,Vbx]⟩
  rcases Vbu.1 hc with hc|hc
  ·subst hc
   rw[l3];exact Vbo _ k2
  ·exact l2 c hc
theorem Lbq.step {G:List (List Int)}{a:Int}{i:Nat}{s:HSt}(h:Lbq G a i s)(hi:i<s.que.length):Lbq G a (i+1) ((atI G (atI s.que (i:Int))).foldl hI s):=by
 have hz:=h.rch _ (at_mem hi);obtain⟨l1,l2,w,l3⟩:=Zac h.toHPre (ys:=atI G (atI s.que (i:Int))) fun c hc=>.step hz hc
 generalize he:(atI G (atI s.que (i:Int))).foldl hI s=u at *
 have lE:∀ k:Nat,k<s.que.length->atI u.que (k:Int)=atI s.que (k:Int):=by
  intro k hk;rw[l3,bH (by rw[Vbw];omega),bH hk,Yb3 hk]
 refine⟨l1,by rw[l3,Vbw];omega,fun k hk c hc=>?_⟩;rw[lE k (by omega)]at hc
 rcases Wbc k i with h1|h1
 ·rw[l3]
  exact Vbo _ (h.cl k h1 c hc)
 ·obtain rfl:k=i:=by omega
  exact l2 c hc
theorem Lbq.done {G:List (List Int)}(hg:GOk G){a:Int}{s:HSt}(h:Lbq G a s.que.length s):s.met=Vas G a:=by
 refine Dau h.srt (Aak _ _) fun x=>?_
 rw[h.eq,uH hg h.sta];refine⟨h.rch x,fun hr=>?_⟩
 induction hr with
 |refl=>exact h.st
 | step _ hc ih =>
  obtain⟨k,hk,e⟩:=Xbc.1 ih;exact h.cl k hk _ (by rw[bH hk,e];exact hc)
noncomputable def Va6 (G:List (List Int))(a:Int):List Int:=(Vas G a).filter fun j=>Kbv G j a
theorem oW {G:List (List Int)}(hg:GOk G){a j:Int}(ha:InB G a):j∈Va6 G a↔Rch G a j/\Rch G j a:=by
 unfold Va6;rw[Xb2,La1,uH hg ha]
theorem Hax (G:List (List Int))(a:Int):nX (Va6 G a):=List.Pairwise.filter _ (Aak G a)
theorem Zae {G:List (List Int)}(hg:GOk G){a:Int}(ha:InB G a):a∈Va6 G a:=(oW hg ha).2 ⟨.refl,.refl⟩
theorem Zaf {G:List (List Int)}(hg:GOk G){a j:Int}(ha:InB G a)(hj:j∈Va6 G a):Va6 G j=Va6 G a:=by
 obtain⟨h1,h2⟩:=(oW hg ha).1 hj;refine Dau (Hax _ _) (Hax _ _) fun x=>?_
 rw[oW hg (h1.inb hg ha),oW hg ha];exact⟨fun h=>⟨h1.trans h.1,h.2.trans h2⟩,fun h=>⟨h2.trans h.1,h.2.trans h1⟩⟩
noncomputable def Fak (G:List (List Int)):List (List Int):=((nums G.length).filter fun i=>atI (Va6 G i) 0==i).map (Va6 G)
theorem Dbz {l:List Int}(h:l≠[]):atI l 0∈l:=iW (by have:=List.length_pos_iff.2 h;unfold InB;omega)
theorem Ca4 {G:List (List Int)}{C:List Int}(h:C∈Fak G):∃ a,InB G a/\C=Va6 G a/\atI C 0=a:=by
 unfold Fak at h;obtain⟨a,ha,rfl⟩:=Wb3.1 h;obtain⟨h1,h2⟩:=Xb2.1 ha;exact⟨a,Fa7.1 h1,rfl,beq_iff_eq.1 h2⟩
theorem Wap {G:List (List Int)}(hg:GOk G){j:Int}(hj:InB G j):∃ C∈Fak G,j∈C:=by
 have hs:=Zae hg hj;have hm:=Dbz (List.ne_nil_of_mem hs);have hi:=((oW hg hj).1 hm).1.inb hg hj;have he:=Zaf hg hj hm;refine⟨Va6 G (atI (Va6 G j) 0),Wb3.2 ⟨_,Xb2.2 ⟨Fa7.2 hi,?_⟩,rfl⟩,by rw[he];exact hs⟩;rw[he];simp
theorem Wao (G:List (List Int)):(Fak G).length<=G.length:=by
 unfold Fak;rw[Wbm];have:=List.length_filter_le (fun i=>atI (Va6 G i) 0==i) (nums G.length);rw[Tay]at this;exact this
structure CSt where
 rest:List (List Int)
 out:List (List Int)
structure Ab4 (G:List (List Int)) (s:CSt):Prop where
 nd:(s.rest++s.out).Nodup
 mem:∀ C,C∈s.rest++s.out↔C∈Fak G
 cl:∀ C∈s.out,∀ j∈C,∀ k,Rch G j k->∃ D∈s.out,k∈D
def Hbn (out:List (List Int))(j:Int):Bool:=out.any fun D=>uN D j
theorem Pa0 {out:List (List Int)}{j:Int}:Hbn out j=true↔∃ D∈out,j∈D:=by
 unfold Hbn;rw[Xb1];constructor
 ·rintro⟨D,h1,h2⟩;exact⟨D,h1,oV.1 h2⟩
 ·rintro⟨D,h1,h2⟩;exact⟨D,h1,oV.2 h2⟩
noncomputable def Jan (G:List (List Int))(out:List (List Int))(C:List Int):Bool:=(Vas G (atI C 0)).all fun j=>Hbn out j||uN C j
theorem Ha1 {G:List (List Int)}(hg:GOk G){out:List (List Int)}{C:List Int}(hC:InB G (atI C 0)):Jan G out C=true↔∀ j,Rch G (atI C 0) j->(∃ D∈out,j∈D)\/j∈C:=by
 unfold Jan;rw[Wbg];constructor
 ·intro h j hj
  have:=h j ((uH hg hC).2 hj);rw[Wb9,Pa0,oV]at this;exact this
 ·intro h j hj
  rw[Wb9,Pa0,oV];exact h j ((uH hg hC).1 hj)
theorem Ab4.sub {G:List (List Int)}{s:CSt}(h:Ab4 G s){C:List Int}(hC:C∈s.rest):C∈Fak G:=(h.mem C).1 (Vbo _ hC)
theorem Zah {G:List (List Int)}(hg:GOk G){s:CSt}(h:Ab4 G s):∀ (n:Nat) (C:List Int),C∈s.rest->(Vas G (atI C 0)).length<=n->∃ D∈s.rest,Jan G s.out D=true
 | n, C, hC, hn => by
  obtain⟨a,ha,he,xq⟩:=Ca4 (h.sub hC);have wy:InB G (atI C 0):=by rw[xq];exact ha
  by_cases hf:Jan G s.out C=true
  ·exact⟨C,hC,hf⟩
  rw[Ha1 hg wy]at hf;obtain⟨j,hf⟩:=Classical.not_forall.1 hf;obtain⟨hj,hf⟩:=Classical.not_imp.1 hf;rw[not_or]at hf;obtain⟨D,hD,hjD⟩:=Wap hg (hj.inb hg wy)
  have hDr:D∈s.rest:=by
   rcases Vb5.1 ((h.mem D).2 hD) with h1|h1
   ·exact h1
   ·exact absurd ⟨D,h1,hjD⟩ hf.1
  obtain⟨b,hb,hDe,heb⟩:=Ca4 hD;have hD0:InB G (atI D 0):=by rw[heb];exact hb
  have hjb:=(oW hg hb).1 (by rw[<- hDe];exact hjD);rw[<- heb]at hjb
  have hna:¬ Rch G (atI D 0) (atI C 0):=fun hr=>hf.2 (by
   rw[he,oW hg ha,<- xq];exact⟨hj,hjb.2.trans hr⟩)
  have bj:(Vas G (atI D 0)).length<(Vas G (atI C 0)).length:=by
   have ev:atI C 0∈Vas G (atI C 0):=(uH hg wy).2 .refl
   have h1:=sV (l:=Vas G (atI D 0)) (m:=(Vas G (atI C 0)).erase (atI C 0)) (Eat (Aak _ _)) fun x hx=>by
    have qe:=(uH hg hD0).1 hx;refine (List.mem_erase_of_ne fun e=>hna ?_).2 ((uH hg wy).2 ((hj.trans hjb.2).trans qe));rw[<- e];exact qe
   have h2:=List.length_erase_of_mem ev;have h3:=List.length_pos_of_mem ev;omega
  match n with
  |0=>omega
  |n+1=>exact Zah hg h n D hDr (by omega)
noncomputable def Uau (G:List (List Int))(s:CSt):Nat:=(ixF (Jan G s.out) s.rest).toNat
noncomputable def cO (G:List (List Int))(s:CSt):CSt:=⟨s.rest.take (Uau G s)++s.rest.drop (Uau G s+1),s.out++[atI s.rest (Uau G s)]⟩
theorem Ab4.top {G:List (List Int)}(hg:GOk G){s:CSt}(h:Ab4 G s)(hr:s.rest≠[]):Uau G s<s.rest.length/\ixF (Jan G s.out) s.rest=(Uau G s:Int)/\Jan G s.out (atI s.rest (Uau G s))=true/\∀ k:Nat,k<Uau G s->Jan G s.out (atI s.rest (k:Int))=false:=by
 obtain⟨C,hC⟩:=List.exists_mem_of_ne_nil _ hr;obtain⟨D,hD,hf⟩:=Zah hg h _ C hC (Vb6 _);obtain⟨k,hk,rfl⟩:=Xbc.1 hD;have h0:0<=ixF (Jan G s.out) s.rest:=Kb7 hk (by rw[bH hk];exact hf);obtain⟨h1,h2,h3⟩:=Dbu h0;have e:ixF (Jan G s.out) s.rest=(Uau G s:Int):=by unfold Uau;omega
 rw[e]at h1 h2;refine⟨aX.1 h1,e,h2,fun k hk=>h3 k ?_⟩;rw[e];omega
theorem Hbx {l out:List (List Int)}{i:Nat}(h:i<l.length):((l.take i++l.drop (i+1))++(out++[atI l (i:Int)])).Perm (l++out):=by
 have e:l=l.take i++atI l (i:Int)::l.drop (i+1):=by
  rw[bH h,<- Xbo h,Xbs]
 conv=>rhs;rw[e]
 generalize l.take i=A;generalize l.drop (i+1)=B;generalize atI l (i:Int)=C;rw[List.perm_iff_count];intro x;simp only[List.count_append,List.count_cons,List.count_nil];omega
theorem Ab4.step {G:List (List Int)}(hg:GOk G){s:CSt}(h:Ab4 G s)(hr:s.rest≠[]):Ab4 G (cO G s)/\(cO G s).rest.length+1=s.rest.length:=by
 obtain⟨h1,h2,h3,-⟩:=h.top hg hr;have hp:=Hbx (out:=s.out) h1;have hCr:atI s.rest (Uau G s:Int)∈s.rest:=at_mem h1;unfold cO;generalize Uau G s=i at *;refine⟨⟨hp.nodup_iff.2 h.nd,fun C=>by rw[hp.mem_iff];exact h.mem C,fun C hC j hj k hk=>?_⟩,by simp only[Vbw,Wbh,Wb4];omega⟩;dsimp only at hC ⊢
 rcases Vb5.1 hC with hC|hC
 ·obtain⟨D,hD,hkD⟩:=h.cl C hC j hj k hk
  exact⟨D,Vbo _ hD,hkD⟩
 ·rw[Vbp]at hC
  subst hC;obtain⟨a,ha,he,xq⟩:=Ca4 (h.sub hCr);have wy:InB G (atI (atI s.rest (i:Int)) 0):=by rw[xq];exact ha
  have hja:=(oW hg ha).1 (by rw[<- he];exact hj)
  rcases (Ha1 hg wy).1 h3 k (by rw[xq];exact hja.1.trans hk) with ⟨D,hD,hkD⟩|hkC
  ·exact⟨D,Vbo _ hD,hkD⟩
  ·exact⟨_,Vbr _ (Vbp.2 rfl),hkC⟩
theorem Db1 {α:Type}[Inhabited α]{xs:List α}{p:α->Bool}{k:Nat}(h:k<xs.length):(xs.take (k+1)).filter p=(xs.take k).filter p++if p (atI xs (k:Int)) then [atI xs (k:Int)] else []:=by
 rw[<- take_at h,List.filter_append];congr 1;cases hp:p (atI xs (k:Int))
 ·rw[List.filter_cons_of_neg (by rw[hp];simp)];rfl
 ·rw[List.filter_cons_of_pos hp];rfl
theorem Ab4.len {G:List (List Int)}{s:CSt}(h:Ab4 G s):s.rest.length+s.out.length<=G.length:=by
 have h1:=sV h.nd (m:=Fak G) fun C hC=>(h.mem C).1 hC
 rw[Vbw]at h1;exact Xb3 h1 (Wao G)
theorem Vaq {t:aM}{x:List Int}(h:x∈Oan t):x∈Ibs t.rows:=by
 unfold Oan at h;exact (Xb2.1 h).1
theorem Hab {t:aM}(ht:dZ t=true){x:List Int}(h:x∈Oan t):jY t.n x/\(eF t (atI x 0) (atI x 1)).state=3/\x=[atI x 0,atI x 1]/\InB x 0/\InB x 1:=by
 obtain⟨a,b,h1,h2,h3⟩:=Za5 ht (Vaq h);exact⟨⟨h1,h2⟩,h3,(Aah h1).symm,a,b⟩
def Gb3 (t:aM)(x:List Int):Int:=100*(eF t (atI x 0) (atI x 1)).attr.seq+10*atI x 0+atI x 1
theorem pW {n:Int}{r:bF}(h:rowOk n r=true):0<=r.attr.seq/\r.attr.seq<=999:=by
 unfold rowOk at h;simp only[Vbk]at h;obtain⟨-,h⟩:=h;split at h
 ·simp only[Vbk,decide_eq_true_eq]at h
  rw[h.2];unfold none0;simp
 ·simp only[Vbk]at h
  have:=h.2;unfold bZ inR at this;simp only[Vbk,decide_eq_true_eq]at this;omega
theorem Ta8 {t:aM}(ht:dZ t=true){x:List Int}(h:jY t.n x):0<=(eF t (atI x 0) (atI x 1)).attr.seq/\(eF t (atI x 0) (atI x 1)).attr.seq<=999/\0<=atI x 0/\atI x 0<=4/\1<=atI x 1/\atI x 1<=6:=by
 have h1:=pW (tT ht h.2);have h2:=gY h.2;have h3:=aL (aU ht);omega
theorem Dbq {t:aM}(ht:dZ t=true){x y:List Int}(hx:jY t.n x)(hy:jY t.n y)(h:Gb3 t x=Gb3 t y):x=y:=by
 have h1:=Ta8 ht hx;have h2:=Ta8 ht hy;unfold Gb3 at h;rw[<- Aah hx.1,<- Aah hy.1];unfold toL prL;dsimp only;have e1:atI x 0=atI y 0:=by omega
 have e2:atI x 1=atI y 1:=by omega
 rw[e1,e2]
theorem Db4 {n:Int}{l:List bF}{no:Int}(h:no<=l.length):ext n l no=l:=by
 unfold ext;rw[show (no-l.length).toNat=0 by omega,List.replicate_zero,List.append_nil]
def Pbs (rd:List (List Int))(s:aM)(k:Nat)(i:Nat):aM:=if decide (Zam rd [(k:Int),(i:Int)+1]<0) then nY s (k:Int) ((i:Int)+1) (row0 s.n) else s
def Obr (rd:List (List Int))(k:Nat):Nat->aM->aM
 |0,s=>s
 |m+1,s=>Pbs rd (Obr rd k m s) k m
def Pbr (rd:List (List Int))(t:aM):Nat->aM
 |0=>t
 |k+1=>Obr rd k (atI t.rows (k:Int)).length (Pbr rd t k)
theorem Pan {rd:List (List Int)}{x:List Int}:Zam rd x<0↔x∉rd:=by
 have h:=jG (fun y=>decide (x=y)) rd;constructor
 ·intro h1 hm
  have:rd.any (fun y=>decide (x=y))=true:=Xb1.2 ⟨x,hm,by simp⟩;rw[this,decide_eq_true_eq]at h;unfold Zam at h1;omega
 ·intro hm
  have:rd.any (fun y=>decide (x=y))=false:=by
   rw[Xbr];intro y hy e;exact hm (by rw[of_decide_eq_true e];exact hy)
  rw[this,decide_eq_false_iff_not]at h;unfold Zam;omega
structure Wa3 (rd:List (List Int)) (t s:aM) (k m:Nat):Prop where
 ok:dZ s=true
 n:s.n=t.n
 len:∀ j:Nat,(atI s.rows (j:Int)).length=(atI t.rows (j:Int)).length
 row:∀ rep no,inst t.n rep no=true->eF s rep no=if (rep<k\/(rep=k/\no<=m))/\[rep,no]∉rd then row0 t.n else eF t rep no
theorem Wa3.rowsLen {rd:List (List Int)}{t s:aM}{k m:Nat}(ht:dZ t=true)(h:Wa3 rd t s k m):s.rows.length=t.rows.length:=by
 have h1:=bX ht;have h2:=bX h.ok;have h3:=h.n;omega
theorem Wa3.stepS {rd:List (List Int)}{t s:aM}{k m:Nat}(ht:dZ t=true)(h:Wa3 rd t s k m)(hk:k<t.rows.length)(hm:m<(atI t.rows (k:Int)).length):Wa3 rd t (Pbs rd s k m) k (m+1):=by
 have hlen:=bX ht;have h6:=(cB ht (at_mem hk)).1
 have hi:inst t.n (k:Int) ((m:Int)+1)=true:=by
  unfold inst inR;simp only[Vbk,decide_eq_true_eq];omega
 have gq:inst s.n (k:Int) ((m:Int)+1)=true:=by rw[h.n];exact hi
 unfold Pbs;cases hf:decide (Zam rd [(k:Int),(m:Int)+1]<0)
 ·have gm:[(k:Int),(m:Int)+1]∈rd:=by
   rw[decide_eq_false_iff_not,Pan]at hf;exact Classical.not_not.1 hf
  refine⟨h.ok,h.n,h.len,fun rep no hr=>?_⟩;simp only[Vbm,if_false];rw[h.row rep no hr];have h0:=gY hr;by_cases e:rep=(k:Int)/\no=(m:Int)+1
  ·obtain⟨e1,e2⟩:=e
   subst e1;subst e2
   rw[if_neg (fun hh=>hh.2 gm),if_neg (fun hh=>hh.2 gm)]
  ·have:(rep<(k:Int)\/rep=(k:Int)/\no<=(m:Int))↔(rep<(k:Int)\/rep=(k:Int)/\no<=((m+1:Nat):Int)):=by omega
   simp only[this]
 ·have ub:[(k:Int),(m:Int)+1]∉rd:=Pan.1 (of_decide_eq_true hf)
  simp only[if_true];refine⟨Wa7 h.ok gq (by rw[h.n];exact Xav (aU ht)),by unfold nY;exact h.n,fun j=>?_,fun rep no hr=>?_⟩
  ·have qm:InB s.rows (k:Int):=aX.2 (by rw[h.rowsLen ht];exact hk)
   unfold nY;dsimp only;by_cases e:j=k
   ·subst e
    rw[wE qm,nJ,Db4 (by rw[h.len];omega),h.len]
   ·rw[sK (by omega) (by omega) (by omega),h.len]
  ·rw[Aa7 h.ok gq (by rw[h.n];exact hr),h.row rep no hr,h.n]
   have h0:=gY hr;by_cases e:rep=(k:Int)/\no=(m:Int)+1
   ·obtain⟨e1,e2⟩:=e
    subst e1;subst e2
    rw[if_pos ⟨rfl,rfl⟩,if_pos ⟨.inr ⟨rfl,by omega⟩,ub⟩]
   ·rw[if_neg e]
    have:(rep<(k:Int)\/rep=(k:Int)/\no<=(m:Int))↔(rep<(k:Int)\/rep=(k:Int)/\no<=((m+1:Nat):Int)):=by omega
    simp only[this]
theorem Wa3.stepN {rd:List (List Int)}{t s:aM}{k:Nat}(ht:dZ t=true)(h:Wa3 rd t s k 0)(hk:k<t.rows.length):∀ m,m<=(atI t.rows (k:Int)).length->Wa3 rd t (Obr rd k m s) k m
 |0,_=>h
 |m+1,hm=>(Wa3.stepN ht h hk m (by omega)).stepS ht hk (by omega)
theorem Wa3.all {rd:List (List Int)}{t:aM}(ht:dZ t=true)(jc:∀ x∈rd,x∈Ibs t.rows):∀ k,k<=t.rows.length->Wa3 rd t (Pbr rd t k) k 0
 | 0, _ => by
  refine⟨ht,rfl,fun _=>rfl,fun rep no hr=>?_⟩;have h0:=gY hr;rw[if_neg (by omega)];rfl
 | k + 1, hk => by
  have h:=(Wa3.all ht jc k (by omega)).stepN ht (by omega) (atI t.rows (k:Int)).length (Vb6 _);refine⟨h.ok,h.n,h.len,fun rep no hr=>?_⟩;show eF (Obr rd k _ (Pbr rd t k)) rep no=_
  rw[h.row rep no hr];have h0:=gY hr;by_cases e:rep=(k:Int)/\¬ no<=((atI t.rows (k:Int)).length:Int)
  ·obtain⟨e1,e2⟩:=e
   have er:eF t rep no=row0 t.n:=by
    unfold eF;rw[e1,if_neg e2]
   rw[er,ite_self,ite_self]
  ·have:(rep<(k:Int)\/rep=(k:Int)/\no<=((atI t.rows (k:Int)).length:Int))↔(rep<((k+1:Nat):Int)\/rep=((k+1:Nat):Int)/\no<=((0:Nat):Int)):=by omega
   simp only[this]
section
variable {T:Nat->Ent} {β:Type}
end
def Rah (c:kM)(rep no:Int)(k i:Nat)(r:bF):Bool:=r.state==0||!wZ c r.cmd||((k:Int)==rep&&(i:Int)+1==no)
def uZ (c:kM)(rep no:Int)(k:Nat)(l:List bF)(a:bN):Nat->bN
 |0=>a
 | i + 1 => if Rah c rep no k i (atI l (i : Int)) then uZ c rep no k l a i
  else ⟨max (uZ c rep no k l a i).seq (atI l (i:Int)).attr.seq,jF (uZ c rep no k l a i).deps (k:Int) ((i:Int)+1)⟩
def zF (t:aM)(c:kM)(rep no:Int):Nat->bN
 |0=>⟨0,Wba t.n.toNat 0⟩
 |k+1=>uZ c rep no k (atI t.rows (k:Int)) (zF t c rep no k) (atI t.rows (k:Int)).length
def zC (t:aM)(c:kM)(rep no:Int):bN:=⟨(zF t c rep no t.rows.length).seq+1,(zF t c rep no t.rows.length).deps⟩
theorem Iaw {c:kM}{rep no:Int}{k:Nat}{l:List bF}{a:bN}{M:Int}(h0:0<=a.seq)(h1:a.seq<=M):∀ i,i<=l.length->(∀ r∈l,r.attr.seq<=M) ->
  (uZ c rep no k l a i).deps.length=a.deps.length/\0<=(uZ c rep no k l a i).seq/\(uZ c rep no k l a i).seq<=M
 |0,_,_=>⟨rfl,h0,h1⟩
 | i + 1, hi, hr => by
  obtain⟨h2,h3,h4⟩:=Iaw (c:=c) (rep:=rep) (no:=no) (k:=k) h0 h1 i (by omega) hr;have h5:=hr _ (at_mem (show i<l.length by omega));unfold uZ;split
  ·exact⟨h2,h3,h4⟩
  ·exact⟨by simp only[nJ];exact h2,by simp only;omega,by simp only;omega⟩
theorem Iav {t:aM}{c:kM}{rep no:Int}{M:Int}(hM:0<=M):∀ k,k<=t.rows.length->(∀ l∈t.rows,∀ r∈l,r.attr.seq<=M) ->
  (zF t c rep no k).deps.length=t.n.toNat/\0<=(zF t c rep no k).seq/\(zF t c rep no k).seq<=M
 |0,_,_=>⟨by simp[zF],by simp[zF],hM⟩
 | k + 1, hk, hr => by
  obtain⟨h2,h3,h4⟩:=Iav (c:=c) (rep:=rep) (no:=no) hM k (by omega) hr;obtain⟨h5,h6,h7⟩:=Iaw (c:=c) (rep:=rep) (no:=no) (k:=k) (l:=atI t.rows (k:Int)) h3 h4 (atI t.rows (k:Int)).length (Vb6 _) (hr _ (at_mem (show k<t.rows.length by omega)));exact⟨h5.trans h2,h6,h7⟩
theorem Abq {t:aM}{c:kM}{rep no:Int}{M:Int}(hM:0<=M)(hr:∀ l∈t.rows,∀ r∈l,r.attr.seq<=M) :
  (zC t c rep no).deps.length=t.n.toNat/\1<=(zC t c rep no).seq/\(zC t c rep no).seq<=M+1:=by
 obtain⟨h2,h3,h4⟩:=Iav (c:=c) (rep:=rep) (no:=no) hM t.rows.length (Vb6 _) hr;unfold zC;exact⟨h2,by simp only;omega,by simp only;omega⟩
def Tbn (r:bF)(k no:Int):Bool:=(r.state==3)&&decide (no<=atI r.attr.deps k)
def Vba (t:aM)(k no:Int):Bool:=decide (no<=((atI t.rows k).length:Int))||t.rows.any fun l=>l.any fun r=>Tbn r k no
def Pb5 (x:Sau)(k:Int):aM:=(atI x.reps k).table
def Yah (x:Sau)(ms:List Int)(y:List Int):Bool:=ms.any fun k=>!((eF (Pb5 x k) (atI y 0) (atI y 1)).state==3)
def Pbi (x:Sau)(ms:List Int)(k no:Int):Bool:=ms.any fun m=>Vba (Pb5 x m) k no
def Obn (x:Sau)(ms:List Int):List (List Int):=(vC x.reps.length).filter fun y=>Pbi x ms (atI y 0) (atI y 1)&&Yah x ms y
theorem Lax {xs:List Int}{lo hi:Int}(h:Ga7 xs lo hi=true):∀ k∈xs,lo<=k/\k<=hi:=by
 intro k hk;unfold Ga7 at h;rw[fZ]at h;obtain⟨i,hi,rfl⟩:=List.getElem_of_mem hk;have:=h i hi;simp only[Vbk]at this;rw[bH hi]at this;exact Aao.1 this.1
theorem Dbh {x:Sau}{ms:List Int}{y:List Int}:y∈Obn x ms↔jY x.reps.length y/\Pbi x ms (atI y 0) (atI y 1)=true/\Yah x ms y=true:=by
 unfold Obn;rw[Xb2,Aa4,Vbk]
theorem Yag (x:Sau)(ms:List Int):xV (Obn x ms):=List.Pairwise.filter _ (Fam _)
structure Cov (n:Nat) (ms:List Int) (S:Int->Int->Prop):Prop where
 len:ms.length=n
 rng:∀ x∈ms,0<=x/\x<=6
 iff:∀ j no:Int,0<=j->j<n->1<=no->(no<=atI ms j↔S j no)
theorem Cov.congr {n:Nat}{ms:List Int}{S S':Int->Int->Prop}(h:Cov n ms S)(hs:∀ j no:Int,0<=j->j<n->1<=no->(S j no↔S' j no)):Cov n ms S' :=
 ⟨h.len,h.rng,fun j no h0 h1 h2=>(h.iff j no h0 h1 h2).trans (hs j no h0 h1 h2)⟩
structure Lbp (x:Sau) (ms:List Int) (S:List Int->Prop) (out:List (List Int)):Prop where
 nodup:out.Nodup
 iff:∀ y,y∈out↔S y/\Yah x ms y=true
 inst:∀ y∈out,jY x.reps.length y
theorem Lbp.done {x:Sau}{ms:List Int}{out:List (List Int)}(h:Lbp x ms (fun y=>jY x.reps.length y/\Pbi x ms (atI y 0) (atI y 1)=true) out):(Na9 id (out.map prL)).map toL=Obn x ms:=by
 obtain⟨h1,h2⟩:=Ga0 (l:=out) (fun y hy=>(h.inst y hy).1) h.nodup;refine Bam h1 (Yag x ms) fun y=>?_
 rw[h2,h.iff,Dbh,and_assoc]
theorem Lbp.step {x:Sau}{ms:List Int}{S:List Int->Prop}{out:List (List Int)}(h:Lbp x ms S out){y:List Int}(hy:jY x.reps.length y) :
  Lbp x ms (fun z=>S z\/z=y) (if Yah x ms y&&!(out.any fun z=>decide (y=z)) then out++[y] else out):=by
 cases ho:Yah x ms y with
 | false =>
  simp only[Bool.false_and,Vbm,if_false];refine⟨h.nodup,fun z=>?_,h.inst⟩;rw[h.iff];constructor
  ·rintro⟨h1,h2⟩;exact⟨.inl h1,h2⟩
  ·rintro⟨h1|rfl,h2⟩
   ·exact⟨h1,h2⟩
   ·rw[ho]at h2;cases h2
 | true =>
  rw[Wbf]
  cases ha:out.any fun z=>decide (y=z) with
  | true =>
   simp only[Bool.not_true,Vbm,if_false];have hm:=Ead.1 ha;refine⟨h.nodup,fun z=>?_,h.inst⟩;rw[h.iff];constructor
   ·rintro⟨h1,h2⟩;exact⟨.inl h1,h2⟩
   ·rintro⟨h1|rfl,h2⟩
    ·exact⟨h1,h2⟩
    ·exact (h.iff z).1 hm
  | false =>
   simp only[Bool.not_false,if_true];have hm:y∉out:=fun hc=>by rw[Ead.2 hc]at ha;cases ha
   refine⟨sU h.nodup hm,fun z=>?_,fun z hz=>?_⟩
   ·rw[Vb5,h.iff,Vbp]
    constructor
    ·rintro (⟨h1,h2⟩|rfl)
     ·exact⟨.inl h1,h2⟩
     ·exact⟨.inr rfl,ho⟩
    ·rintro⟨h1|rfl,h2⟩
     ·exact .inl ⟨h1,h2⟩
     ·exact .inr rfl
   ·rcases Vb5.1 hz with hz|hz
    ·exact h.inst z hz
    ·rw[Vbp.1 hz];exact hy
def Bef {α:Type}(l:List α)(x y:α):Prop:=∃ A B,l=A++B/\x∈A/\y∈B
theorem Bef.idx {α:Type}{l:List α}{x y:α}:Bef l x y↔∃ i j,∃ hi:i<l.length,∃ hj:j<l.length,i<j/\l[i]=x/\l[j]=y:=by
 constructor
 ·rintro⟨A,B,rfl,hx,hy⟩
  obtain⟨i,hi,rfl⟩:=Xbc.1 hx;obtain⟨j,hj,rfl⟩:=Xbc.1 hy;refine⟨i,A.length+j,by rw[Vbw];omega,by rw[Vbw];omega,by omega,?_,?_⟩
  ·rw[Yb3 hi]
  ·rw[List.getElem_append_right (by omega)]
   simp
 ·rintro⟨i,j,hi,hj,se,rfl,rfl⟩
  refine⟨l.take (i+1),l.drop (i+1),(Xbs _ _).symm,?_,?_⟩
  ·exact Xbc.2 ⟨i,by rw[Wbh];omega,by rw[List.getElem_take]⟩
  ·exact Xbc.2 ⟨j-(i+1),by rw[Wb4];omega,by rw[List.getElem_drop];congr 1;omega⟩
theorem Bef.map {α β:Type}{l:List α}{f:α->β}{x y:α}(h:Bef l x y):Bef (l.map f) (f x) (f y):=by
 obtain⟨A,B,rfl,hx,hy⟩:=h;exact⟨A.map f,B.map f,by rw[Ybj],Xbf hx,Xbf hy⟩
def Pb0 (G:List (List Int))(out:List (List Int)):Prop:=∀ A C B,out=A++C::B->∀ j∈C,∀ k,Rch G j k->(∃ D∈A,k∈D)\/k∈C
theorem Pb0.step {G:List (List Int)}(hg:GOk G){s:CSt}(h:Ab4 G s)(hr:s.rest≠[])(hp:Pb0 G s.out):Pb0 G (cO G s).out:=by
 obtain⟨h1,h2,h3,-⟩:=h.top hg hr;have hCr:atI s.rest (Uau G s:Int)∈s.rest:=at_mem h1;unfold cO;dsimp only;generalize atI s.rest (Uau G s:Int)=C0 at *;intro A C B e j hj k hk
 rcases List.eq_nil_or_concat B with hB|⟨B',b,hB⟩
 ·subst hB
  obtain⟨e1,e2⟩:=List.append_inj' e rfl;rw[Xbh]at e2;obtain⟨rfl,-⟩:=e2;subst e1;obtain⟨a,ha,he,xq⟩:=Ca4 (h.sub hCr);have wy:InB G (atI C0 0):=by rw[xq];exact ha
  have hja:=(oW hg ha).1 (by rw[<- he];exact hj);exact (Ha1 hg wy).1 h3 k (by rw[xq];exact hja.1.trans hk)
 ·rw[List.concat_eq_append]at hB
  subst hB;have e':s.out++[C0]=(A++C::B')++[b]:=by rw[e];simp
  obtain⟨e1,-⟩:=List.append_inj' e' rfl;exact hp A C B' e1 j hj k hk
def Obv (t:aM)(x y:List Int):Prop:=Ia8 t y x/\(¬ Ia8 t x y\/Gb3 t x<Gb3 t y)
theorem Obv.total {t:aM}(ht:dZ t=true){x y:List Int}(hx:x∈Oan t)(hy:y∈Oan t)(cU:x≠y)(h:Ia8 t x y\/Ia8 t y x):Obv t x y\/Obv t y x:=by
 unfold Obv;by_cases h1:Ia8 t x y
 ·by_cases h2:Ia8 t y x
  ·rcases Int.lt_trichotomy (Gb3 t x) (Gb3 t y) with h3|h3|h3
   ·exact .inl ⟨h2,.inr h3⟩
   ·exact absurd (Dbq ht (Hab ht hx).1 (Hab ht hy).1 h3) cU
   ·exact .inr ⟨h1,.inr h3⟩
  ·exact .inr ⟨h1,.inl h2⟩
 ·rcases h with h|h
  ·exact absurd h h1
  ·exact .inl ⟨h,.inl h1⟩
def kJ (l:aN):Int×Int:=(l.rep,l.no)
def qQ (ls:List aN):Prop:=ls.Pairwise fun a b=>ltQ (kJ a) (kJ b)=true
def lS (x:Int×Int)(ls:List aN):Nat:=(ls.takeWhile fun l=>ltQ (kJ l) x).length
def lC (x:Int×Int)(ls:List aN):List aN:=ls.filter fun l=>!(kJ l==x)
def Haw (x:Int×Int)(ls:List aN):Bool:=ls.any fun l=>kJ l==x
def Aam (l:aN)(ls:List aN):List aN:=(lC (kJ l) ls).take (lS (kJ l) (lC (kJ l) ls))++l::(lC (kJ l) ls).drop (lS (kJ l) (lC (kJ l) ls))
theorem Maa (x:Int×Int):ltQ x x=false:=by rw[qA];omega
theorem Oay {x y z:Int×Int}(h:ltQ x y=true)(h2:ltQ y z=true):ltQ x z=true:=by rw[wS]at *;omega
theorem Dbl {x y:Int×Int}(h:ltQ x y=true):ltQ y x=false:=by rw[wS]at h;rw[qA];omega
theorem Da9 (x:Int×Int)(ls:List aN):lS x ls<=ls.length:=by
 unfold lS;exact (List.takeWhile_sublist _).length_le
theorem Aax {x:Int×Int}:∀ {ls:List aN} {k:Nat} (hk:k<lS x ls),ltQ (kJ (ls[k]'(Nat.lt_of_lt_of_le hk (Da9 x ls)))) x=true
 | l :: ls, k, hk => by
  unfold lS at hk;rw[Yb7]at hk;split at hk
  ·rename_i h
   cases k with
   |zero=>exact h
   | succ k =>
    rw[Wbb]at hk;exact Aax (ls:=ls) (k:=k) (by unfold lS;omega)
  ·simp at hk
theorem Iaf {x:Int×Int}:∀ {ls:List aN},qQ ls->∀ {k:Nat} (hk:k<ls.length),lS x ls<=k->ltQ (kJ ls[k]) x=false
 | l :: ls, hs, k, hk, hc => by
  obtain⟨h1,h2⟩:=Xbg.1 hs;unfold lS at hc;rw[Yb7]at hc;split at hc
  ·rename_i h
   cases k with
   |zero=>simp at hc
   | succ k =>
    rw[Wbb]at hc;exact Iaf h2 (by simpa using hk) (by unfold lS;omega)
  ·rename_i h
   have h':ltQ (kJ l) x=false:=by simpa using h
   cases k with
   |zero=>exact h'
   | succ k =>
    have:=h1 _ (Xbb (by simpa using hk:k<ls.length));rw[List.getElem_cons_succ];rw[qA]at h' ⊢;rw[wS]at this;omega
theorem Hbo {x:Int×Int}{ls:List aN}(hs:qQ ls){k:Nat}(hk:k<=ls.length)(h1:∀ j (hj:j<ls.length),j<k->ltQ (kJ ls[j]) x=true)(h2:∀ j (hj:j<ls.length),k<=j->ltQ (kJ ls[j]) x=false):lS x ls=k:=by
 have hc:=Da9 x ls
 rcases Nat.lt_trichotomy (lS x ls) k with h|h|h
 ·have a:=h1 (lS x ls) (by omega) h
  have b:=Iaf (x:=x) hs (k:=lS x ls) (by omega) (Vb6 _);rw[a]at b;cases b
 ·exact h
 ·have a:=h2 k (by omega) (Vb6 _)
  have b:=Aax (x:=x) (ls:=ls) h;rw[a]at b;cases b
theorem Aat {x:Int×Int}{ls:List aN}(hs:qQ ls):Haw x ls=true↔∃ h:lS x ls<ls.length,kJ (ls[lS x ls]'h)=x:=by
 unfold Haw;rw[Xb1];constructor
 ·rintro⟨l,hl,e⟩
  obtain⟨k,hk,rfl⟩:=Xbc.1 hl;have e':kJ ls[k]=x:=by simpa using e
  have:lS x ls=k:=by
   refine Hbo hs (by omega) (fun j hj hjk=>?_) fun j hj hjk=>?_
   ·rw[<- e'];exact Xbm.1 hs j k hj hk hjk
   ·rcases Wbc k j with h|h
    ·have:=Dbl (Xbm.1 hs k j hk hj h)
     rw[<- e'];exact this
    ·obtain rfl:j=k:=by omega
     rw[e'];exact Maa x
  subst this;exact⟨hk,e'⟩
 ·rintro⟨h,e⟩
  exact⟨_,Xbb h,by simp[e]⟩
theorem Ebe {x:Int×Int}{ls:List aN}(h:Haw x ls=false):lC x ls=ls:=by
 unfold lC;rw[List.filter_eq_self];intro l hl;unfold Haw at h;rw[Xbr]at h;simpa using h l hl
theorem Ebf {x:Int×Int}{ls:List aN}(hs:qQ ls)(h:Haw x ls=true):lC x ls=ls.take (lS x ls)++ls.drop (lS x ls+1):=by
 obtain⟨hk,e⟩:=(Aat hs).1 h;generalize hc:lS x ls=k at *;have gk:ls=ls.take k++ls[k]::ls.drop (k+1):=by rw[<- Xbo hk,Xbs]
 have ha:∀ l∈ls.take k,(!(kJ l==x))=true:=fun l hl=>by
  obtain⟨j,hj,rfl⟩:=Xbc.1 hl;rw[Wbh]at hj;rw[List.getElem_take];have:=Aax (x:=x) (ls:=ls) (k:=j) (by omega);simp only[Vb9,beq_eq_false_iff_ne];intro e2;rw[e2,Maa]at this;cases this
 have hb:∀ l∈ls.drop (k+1),(!(kJ l==x))=true:=fun l hl=>by
  obtain⟨j,hj,rfl⟩:=Xbc.1 hl;rw[Wb4]at hj;rw[List.getElem_drop];have:=Xbm.1 hs k (k+1+j) hk (by omega) (by omega);simp only[Vb9,beq_eq_false_iff_ne];intro e2;rw[e2,e,Maa]at this;cases this
 unfold lC
 conv=>lhs;rw[gk]
 rw[List.filter_append,List.filter_cons,List.filter_eq_self.2 ha,List.filter_eq_self.2 hb,e];simp
theorem yY {x:Int×Int}{ls:List aN}(hs:qQ ls):qQ (lC x ls):=List.Pairwise.filter _ hs
theorem Ca1 {x:Int×Int}{ls:List aN}{l:aN}(h:l∈lC x ls):l∈ls/\kJ l≠x:=by
 unfold lC at h;rw[Xb2]at h;exact⟨h.1,by simpa using h.2⟩
theorem Zax (x:Int×Int)(ls:List aN):Haw x (lC x ls)=false:=by
 unfold Haw;rw[Xbr];intro l hl;simpa using (Ca1 hl).2
theorem Dbf {l l':aN}{ls:List aN}(h:l'∈Aam l ls):l'=l\/l'∈ls:=by
 unfold Aam at h
 rcases Vb5.1 h with h|h
 ·exact .inr (Ca1 (Yba h)).1
 ·rcases Vbu.1 h with h|h
  ·exact .inl h
  ·exact .inr (Ca1 (Xbj h)).1
theorem Ba2 {l:aN}{ls:List aN}(hs:qQ ls):qQ (Aam l ls):=by
 have hd:=yY (x:=kJ l) hs;have hn:=Zax (kJ l) ls;unfold Aam;generalize lC (kJ l) ls=ds at *;have hc:=Da9 (kJ l) ds
 have mB:∀ a∈ds.take (lS (kJ l) ds),ltQ (kJ a) (kJ l)=true:=fun a ha=>by
  obtain⟨j,hj,rfl⟩:=Xbc.1 ha;rw[Wbh]at hj;rw[List.getElem_take];exact Aax (by omega)
 have r6:∀ a∈ds.drop (lS (kJ l) ds),ltQ (kJ l) (kJ a)=true:=fun a ha=>by
  obtain⟨j,hj,rfl⟩:=Xbc.1 ha;rw[Wb4]at hj;rw[List.getElem_drop];have h1:=Iaf (x:=kJ l) hd (k:=lS (kJ l) ds+j) (by omega) (by omega)
  have h2:kJ ds[lS (kJ l) ds+j]≠kJ l:=by
   unfold Haw at hn;rw[Xbr]at hn;simpa using hn _ (Xbb (by omega:lS (kJ l) ds+j<ds.length))
  rw[wS];rw[qA]at h1
  rcases h1 with h|⟨h,h'⟩
  ·exact .inl h
  ·refine .inr ⟨h.symm,?_⟩
   rcases Int.lt_or_eq_of_le h' with h3|h3
   ·exact h3
   ·exact absurd (Prod.ext h h3.symm) h2
 unfold qQ;rw[List.pairwise_append];refine⟨hd.sublist (List.take_sublist _ _),Xbg.2 ⟨r6,hd.sublist (List.drop_sublist _ _)⟩,fun a ha b hb=>?_⟩
 rcases Vbu.1 hb with rfl|hb
 ·exact mB a ha
 ·exact Oay (mB a ha) (r6 b hb)
theorem Ea1 {p l:aN}:Oa1 p l=false↔ltQ (kJ p) (kJ l)=true:=by
 unfold Oa1;rw[wS];simp only[Bool.or_eq_false_iff,decide_eq_false_iff_not,Bool.and_eq_false_iff,beq_eq_false_iff_ne,kJ];omega
theorem kQ {r:pO}:bV r=true↔dZ r.table=true/\inR r.me 0 (r.table.n-1)=true/\(∀ l∈r.leads,gP r.table.n r.me l=true)/\qQ r.leads:=by
 unfold bV;rw[Vbk,Vbk,fZ,and_assoc];refine and_congr_right fun _=>and_congr_right fun _=>?_
 constructor
 ·intro h
  have lE:∀ i (hi:i<r.leads.length),gP r.table.n r.me r.leads[i]=true/\∀ (h0:0<i),ltQ (kJ (r.leads[i-1]'(by omega))) (kJ r.leads[i])=true:=fun i hi=>by
   have:=h i hi;unfold Ham at this;rw[Vbk,bH hi]at this;refine⟨this.1,fun h0=>?_⟩;have h2:=this.2;rw[show ((i:Int)-1)=((i-1:Nat):Int) by omega,bH (show i-1<r.leads.length by omega),decide_eq_true (show (0:Int)<(i:Int) by omega),Wbf,Vb9]at h2;exact Ea1.1 h2
  refine⟨fun l hl=>?_,Xbm.2 ?_⟩
  ·obtain⟨i,hi,rfl⟩:=Xbc.1 hl
   exact (lE i hi).1
  ·intro i j hi hj se
   induction j with
   |zero=>omega
   | succ j ih =>
    have h2:=(lE (j+1) hj).2 (by omega);simp only[Nat.add_sub_cancel]at h2
    rcases Wbc i j with h3|h3
    ·exact Oay (ih (by omega) h3) h2
    ·obtain rfl:i=j:=by omega
     exact h2
 ·rintro⟨h1,h2⟩ i hi
  unfold Ham;rw[Vbk,bH hi];refine⟨h1 _ (Xbb hi),?_⟩;by_cases h0:0<i
  ·rw[show ((i:Int)-1)=((i-1:Nat):Int) by omega,bH (show i-1<r.leads.length by omega),Ea1.2 (Xbm.1 h2 (i-1) i (by omega) hi (by omega))]
   simp
  ·rw[decide_eq_false (by omega)]
   rfl
def Vah (n me:Int)(m:fC)(dst:Int):fC:=⟨m.kind,me,dst,m.rep,m.no,m.ballot,m.vote,m.state,m.cmd,if (m.attr.deps.length:Int)==0 then none0 n else m.attr⟩
def vU (n me:Int)(m:fC)(k:Nat):List fC:=(Yb1 k).flatMap fun i:Nat=>if (i:Int)==me then [] else [Vah n me m (i:Int)]
theorem xU (n me:Int)(m:fC)(k:Nat):vU n me m (k+1)=vU n me m k++if (k:Int)==me then [] else [Vah n me m k]:=by
 simp[vU,List.range_succ,List.flatMap_append]
theorem vB (n me:Int)(m:fC):∀ k,(vU n me m k).length<=k
 |0=>by simp[vU]
 | k + 1 => by
  have:=vB n me m k;rw[xU,Vbw];split<;>simp<;>omega
theorem Hbt (l:aN)(a b:Int):decide (Ebl [l.rep,l.no] [a,b]<0)=ltQ (kJ l) (a,b):=by
 unfold Ebl Ma4 ltQ kJ;by_cases h1:l.rep<a
 ·simp[h1]
 ·rw[if_neg h1]
  by_cases h2:a<l.rep
  ·have h3:¬ l.rep=a:=by omega
   simp[h1,h2,h3]
  ·rw[if_neg h2]
   have:l.rep=a:=by omega
   unfold Ma4;by_cases h3:l.no<b
   ·simp[h1,this,h3]
   ·rw[if_neg h3]
    by_cases h4:b<l.no
    ·simp[h1,this,h3,h4]
    ·rw[if_neg h4]
     simp[Ma4,h1,this,h3]
theorem Hbu (l:aN)(a b:Int):(Ebl [l.rep,l.no] [a,b]==0)=(kJ l==(a,b)):=by
 unfold Ebl Ma4 kJ;by_cases h1:l.rep<a
 ·have:¬ l.rep=a:=by omega
  simp[h1,this]
 ·rw[if_neg h1]
  by_cases h2:a<l.rep
  ·have:¬ l.rep=a:=by omega
   simp[h2,this]
  ·rw[if_neg h2]
   have:l.rep=a:=by omega
   unfold Ma4;by_cases h3:l.no<b
   ·have h5:¬ l.no=b:=by omega
    simp[h3,h5]
   ·rw[if_neg h3]
    by_cases h4:b<l.no
    ·have h5:¬ l.no=b:=by omega
     simp[h4,h5]
    ·have h5:l.no=b:=by omega
     rw[if_neg h4];simp[Ma4,this,h5]
theorem Ib1 {a:Int}(h0:0<=a)(h1:a<=1000000000000):(aT.conv .u64).run [i64 a]=some [u64 a]/\(aT.bin .shr).run [u64 a,.int .u64 1]=some [u64 (a / 2)]/\(aT.conv .i64).run [u64 (a / 2)]=some [i64 (a / 2)]:=by
 refine⟨?_,?_,?_⟩
 ·rw[u_conv,show IntKind.u64.wrap a=a by rw[IntKind.wrap_u64];omega]
 ·show some [u64 (a.fdiv (2 ^ 1))]=_
  rw[Int.fdiv_eq_ediv_of_nonneg _ (by omega)];rfl
 ·show some [D.int .i64 (IntKind.i64.wrap (a / 2))]=_
  rw[show IntKind.i64.wrap (a / 2)=a / 2 by rw[IntKind.wrap_i64];omega]
theorem Za1 {ls:List aN}{k:Nat}(h:k<ls.length)(hl:ls.length<=10000000000):Fbp 16 [rL ls,i64 (k:Int),i64 ((k:Int)+1)]=some [rL (ls.take k++ls.drop (k+1))]:=by
 show Fbp 16 [.rows 16 (ls.map Enc.enc),.int .i64 (k:Int),.int .i64 ((k:Int)+1)]=some [.rows 16 ((ls.take k++ls.drop (k+1)).map Enc.enc)]
 simp only[Fbp];rw[if_pos ⟨trivial,by omega,by omega,by rw[Wbm];omega,by rw[Wbm];omega,by rw[Wbm];omega⟩];rw[show ((k:Int)).toNat=k by omega,show ((k:Int)+1).toNat=k+1 by omega,Ybj,List.map_take,List.map_drop]
theorem Ya8 {ls:List aN}{k:Nat}(l:aN)(h:k<=ls.length)(hl:ls.length<=10000000000):Fbh 16 [rL ls,i64 (k:Int),rL [l]]=some [rL (ls.take k++l::ls.drop k)]:=by
 show Fbh 16 [.rows 16 (ls.map Enc.enc),.int .i64 (k:Int),.rows 16 [Enc.enc l]]=some [.rows 16 ((ls.take k++l::ls.drop k).map Enc.enc)]
 simp only[Fbh];rw[if_pos ⟨trivial,trivial,by omega,by rw[Wbm];omega,by rw[Wbm];omega⟩];rw[show ((k:Int)).toNat=k by omega,Ybj,List.map_cons,List.map_take,List.map_drop]
theorem tJ (x:Int×Int)(ls:List aN):(lC x ls).length<=ls.length:=List.length_filter_le _ _
theorem mH (l:aN)(ls:List aN):(Aam l ls).length<=ls.length+1:=by
 have:=tJ (kJ l) ls;unfold Aam;rw[Vbw,Wbb,Wbh,Wb4];omega
theorem Xae {t:aM}{n:Int}(h:t.n=n):(⟨n,t.rows⟩:aM)=t:=by subst h;rfl
theorem sP {me:Int}{t:aM}{ls:List aN}(h:bV ⟨me,t,ls⟩=true)(x:Int×Int):bV ⟨me,t,lC x ls⟩=true:=by
 rw[kQ]at h ⊢;exact⟨h.1,h.2.1,fun l hl=>h.2.2.1 l (Ca1 hl).1,yY h.2.2.2⟩
theorem nR {me:Int}{t:aM}{ls:List aN}{l:aN}(h:bV ⟨me,t,ls⟩=true)(hl:gP t.n me l=true):bV ⟨me,t,Aam l ls⟩=true:=by
 rw[kQ]at h ⊢;exact⟨h.1,h.2.1,fun x hx=>(Dbf hx).elim (fun e=>e▸hl) (h.2.2.1 x),Ba2 h.2.2.2⟩
theorem nQ {me:Int}{t:aM}{ls:List aN}{rep no:Int}{r:bF}(h:bV ⟨me,t,ls⟩=true)(hi:inst t.n rep no=true)(hr:rowOk t.n r=true):bV ⟨me,nY t rep no r,ls⟩=true:=by
 rw[kQ]at h ⊢;exact⟨Wa7 h.1 hi hr,h.2⟩
theorem bJ {r:pO}(h:bV r=true):dZ r.table=true:=(kQ.1 h).1
theorem fB {r:pO}(h:bV r=true):qQ r.leads:=(kQ.1 h).2.2.2
theorem gD {r:pO}(h:bV r=true):0<=r.me/\r.me<=r.table.n-1:=by
 have:=(kQ.1 h).2.1;simpa[inR] using this
theorem iF {n me:Int}{l:aN}(h:gP n me l=true):inst n l.rep l.no=true/\inR l.ballot 0 9999=true/\Ga7 l.who 0 (n-1)=true/\uN l.who me=true/\bZ n l.first=true/\bZ n l.attr=true:=by
 unfold gP at h;simp only[Vbk]at h;exact⟨h.1.1.1.1.1.1,h.1.1.1.1.1.2,h.1.1.1.1.2,h.1.1.1.2,h.1.1.2,h.1.2⟩
theorem Kau {n me:Int}{l:aN}(h:gP n me l=true)(hp:l.phase=1\/l.phase=2):iZ l.cmd=true:=by
 unfold gP at h;simp only[Vbk]at h;have h2:=h.2
 rcases hp with e|e<;>rw[e]at h2<;>simp at h2
 ·exact h2.1
 ·exact h2.1.1.1
theorem bL {n rep no:Int}(h:inst n rep no=true):1<=no/\no<=1000:=by have:=gY h;omega
theorem dY {n:Int}{a:bN}(hg:bR n=true)(h:bZ n a=true):0<a.deps.length/\a.deps.length<=10000000000:=by
 have h1:=aL hg;have h2:=(lU h).2.2.1;omega
theorem yQ {n me rep no ballot:Int}{c:kM}{a:bN}{ph:Int}{same:Bool}(hi:inst n rep no=true)(hb:inR ballot 0 9999=true)(hm:0<=me/\me<=n-1)(ha:bZ n a=true)(hc:iZ c=true)
  (hp:(ph=1)\/(ph=2/\same=false)):gP n me ⟨rep,no,ballot,ph,c,a,a,same,[me],[]⟩=true:=by
 have h1:Ga7 [me] 0 (n-1)=true:=by
  unfold Ga7;rw[fZ];intro i hi;obtain rfl:i=0:=by simpa using hi
  simp[inR,Faq,atI,hm.1,hm.2]
 have h2:uN [me] me=true:=by simp[uN]
 unfold gP
 rcases hp with rfl|⟨rfl,rfl⟩<;>simp[hi,hb,h1,h2,ha,hc]
theorem Oae {n ballot:Int}{st:Int}{c:kM}{a:bN}(hb:inR ballot 0 9999=true)(hc:iZ c=true)(ha:bZ n a=true)(hs:st=1\/st=2):rowOk n ⟨ballot,ballot,st,c,a⟩=true:=by
 have:0<=ballot/\ballot<=9999:=by simpa[inR] using hb
 unfold rowOk
 rcases hs with rfl|rfl<;>simp[hb,hc,ha,inR,this.1,this.2]
theorem Gbp {xs:List Int}{lo hi:Int}(h:Ga7 xs lo hi=true):∀ i (hi:i<xs.length),lo+i<=xs[i]:=by
 have hm:=Lax h;unfold Ga7 at h;rw[fZ]at h;intro i
 induction i with
 | zero =>
  intro kx;have:=hm _ (Xbb kx);omega
 | succ i ih =>
  intro ou;have h1:=h (i+1) ou;rw[Vbk]at h1;have h2:=h1.2;unfold Faq at h2;rw[bH ou,show ((i+1:Nat):Int)-1=((i:Nat):Int) by omega,bH (show i<xs.length by omega),decide_eq_true (show 0<i+1 by omega),Wbf,Vb9,decide_eq_false_iff_not]at h2;have:=ih (by omega);omega
theorem Tas {xs:List Int}{n:Int}(h:Ga7 xs 0 (n-1)=true)(h0:0<xs.length):(xs.length:Int)<=n:=by
 have h1:=Gbp h (xs.length-1) (by omega);have h2:=Lax h _ (Xbb (show xs.length-1<xs.length by omega));omega
theorem Cag {n me:Int}{l:aN}(hg:bR n=true)(h:gP n me l=true):Faz l<=100:=by
 have hn:=aL hg;obtain⟨h1,h2,h3,h4,h5,h6⟩:=iF h;have a1:=(lU h5).2.2.1;have a2:=(lU h6).2.2.1
 have hw:(l.who.length:Int)<=n:=by
  rcases Nat.eq_zero_or_pos l.who.length with e|e
  ·omega
  ·exact Tas h3 e
 have hs:szL kH l.seen<=60:=by
  unfold gP at h;simp only[Vbk]at h;have h7:=h.2
  have hz:(l.seen.length:Int)=0->szL kH l.seen<=60:=fun e=>by
   have:l.seen=[]:=List.length_eq_zero_iff.1 (by omega);rw[this];exact Nat.zero_le _
  split at h7
  ·rw[Vbk,beq_iff_eq]at h7;exact hz h7.2
  ·split at h7
   ·simp only[Vbk,beq_iff_eq]at h7;exact hz h7.1.1.2
   ·split at h7
    ·simp only[Vbk,beq_iff_eq,Wbg]at h7
     have hr:∀ r∈l.seen,kH r<=5:=fun r hr=>by
      have:=nA (h7.2 r hr).1 hg;rw[Xag];omega
     have:=Sa6 (f:=kH) (k:=5) hr;have hl:(l.seen.length:Int)=l.who.length:=h7.1.2;omega
    ·cases h7
 rw[vX];omega
theorem Cbx {t:aM}(h:dZ t=true):szL (szL kH) t.rows<=2000:=by
 have hg:=aU h;have hn:=aL hg;have hl:=bX h
 have:=Sa6 (f:=szL kH) (k:=100) (xs:=t.rows) fun l hl=>by
  obtain⟨h1,h2⟩:=cB h hl
  have:=Sa6 (f:=kH) (k:=5) (xs:=l) fun r hr=>by
   have:=nA (h2 r hr) hg;rw[Xag];omega
  omega
 omega
theorem kW {r:pO}(h:bV r=true)(hl:r.leads.length<=1000000000):gF r.table.rows/\iB r.leads:=by
 have ht:=bJ h;have hg:=aU ht;have h3:=(kQ.1 h).2.2.1;exact⟨Cb1 (Xb3 (Cbx ht) (by omega)),by omega,fun l hl=>Xap (Xb3 (Cag hg (h3 l hl)) (by omega))⟩
def Ia3 (l:aN):bF:=⟨l.ballot,l.ballot,2,l.cmd,l.attr⟩
def Sar (me:Int)(l:aN):aN:=⟨l.rep,l.no,l.ballot,2,l.cmd,l.attr,l.attr,false,[me],[]⟩
def Qah (l:aN):fC:=⟨3,0,0,l.rep,l.no,l.ballot,0,0,l.cmd,l.attr⟩
def Bag (t:aM)(l:aN):Bool:=decide (l.ballot<(eF t l.rep l.no).ballot)
def Saq (t:aM)(l:aN):aM:=if Bag t l then t else nY t l.rep l.no (Ia3 l)
def Sas (me:Int)(t:aM)(ls:List aN)(l:aN):List aN:=if Bag t l then lC (kJ l) ls else Aam (Sar me l) ls
def Ab9 (me:Int)(t:aM)(out:List fC)(l:aN):List fC:=if Bag t l then out else out++vU t.n me (Qah l) t.n.toNat
theorem Abv (t:aM)(l:aN):(Saq t l).n=t.n:=by unfold Saq;split<;>rfl
theorem Fbw {me:Int}{t:aM}{ls:List aN}{l:aN}(h:bV ⟨me,t,ls⟩=true)(hi:inst t.n l.rep l.no=true)(hb:inR l.ballot 0 9999=true)(ha:bZ t.n l.attr=true)(hc:iZ l.cmd=true) :
  bV ⟨me,Saq t l,Sas me t ls l⟩=true/\rowOk t.n (Ia3 l)=true:=by
 have hr:rowOk t.n (Ia3 l)=true:=Oae hb hc ha (.inr rfl);refine⟨?_,hr⟩;unfold Saq Sas;split
 ·exact sP h _
 ·exact nR (nQ h hi hr) (yQ hi hb (gD h) ha hc (.inr ⟨rfl,rfl⟩))
theorem Nad (me:Int)(t:aM)(ls:List aN)(l:aN):(Sas me t ls l).length<=ls.length+1:=by
 unfold Sas;split
 ·have:=tJ (kJ l) ls;omega
 ·exact mH _ _
def kG (ballot:Int)(c:kM)(a:bN):bF:=⟨ballot,ballot,1,c,a⟩
def nG (me rep no ballot:Int)(c:kM)(a:bN):aN:=⟨rep,no,ballot,1,c,a,a,true,[me],[]⟩
def Dac (rep no ballot:Int)(c:kM)(a:bN):fC:=⟨1,0,0,rep,no,ballot,0,0,c,a⟩
theorem Abn {me rep no ballot:Int}{t:aM}{ls:List aN}{c:kM}{a:bN}(h:bV ⟨me,t,ls⟩=true)(hi:inst t.n rep no=true)(hb:inR ballot 0 9999=true)(ha:bZ t.n a=true)(hc:iZ c=true) :
  bV ⟨me,nY t rep no (kG ballot c a),Aam (nG me rep no ballot c a) ls⟩=true/\rowOk t.n (kG ballot c a)=true:=by
 have hr:rowOk t.n (kG ballot c a)=true:=Oae hb hc ha (.inl rfl);exact⟨nR (nQ h hi hr) (yQ hi hb (gD h) ha hc (.inl rfl)),hr⟩
def Fbb:pO:=⟨0,⟨0,[]⟩,[]⟩
abbrev Ibb:=pO×List fC×Bool
def Aa3:Ibb:=(Fbb,[],false)
def yS (r:pO)(rep no:Int):aN:=atI r.leads ((lS (rep,no) r.leads:Nat):Int)
def Fbj (r:pO)(rep no:Int):Bool :=
 bV r&&Haw (rep,no) r.leads&&!((eF r.table rep no).state==3)&&(yS r rep no).phase==1&&(yS r rep no).ballot==0&&decide (r.table.n / 2<((yS r rep no).who.length:Int))
def jS (r:pO)(rep no:Int):Ibb :=
 if Fbj r rep no then (⟨r.me,Saq r.table (yS r rep no),Sas r.me r.table r.leads (yS r rep no)⟩,Ab9 r.me r.table [] (yS r rep no),true) else Aa3
theorem Hau {r:pO}{rep no:Int}(h:bV r=true)(h2:Haw (rep,no) r.leads=true):InB r.leads ((lS (rep,no) r.leads:Nat):Int)/\kJ (yS r rep no)=(rep,no)/\gP r.table.n r.me (yS r rep no)=true:=by
 obtain⟨hk,e⟩:=(Aat (fB h)).1 h2;unfold yS;rw[bH hk];exact⟨aX.2 hk,e,(kQ.1 h).2.2.1 _ (Xbb hk)⟩
theorem Kb8 {α:Type}{p:α->Bool}{xs:List α}{k:Nat}(hk:k<xs.length)(hp:p xs[k]=true)(h:∀ j (hj:j<k),p (xs[j]'(by omega))=false):ixF p xs=(k:Int):=by
 unfold ixF;rw[List.findIdx?_eq_some_iff_getElem.2 ⟨hk,hp,fun j hj=>by simpa using h j hj⟩]
theorem Dbv {α:Type}{p:α->Bool}{xs:List α}(h:∀ x∈xs,p x=false):ixF p xs=-1:=by
 unfold ixF;rw[List.findIdx?_eq_none_iff.2 h]
theorem ixL {ls:List aN}(hs:qQ ls)(x:Int×Int):ixF (fun l=>kJ l==x) ls=if Haw x ls then ((lS x ls:Nat):Int) else -1:=by
 split
 ·rename_i h
  obtain⟨hk,e⟩:=(Aat hs).1 h;refine Kb8 hk (by simpa using e) fun j hj=>?_
  have:=Aax (x:=x) (ls:=ls) hj;simp only[beq_eq_false_iff_ne];intro e2;rw[e2,Maa]at this;cases this
 ·rename_i h
  refine Dbv fun l hl=>?_
  have h':Haw x ls=false:=by simpa using h
  unfold Haw at h';rw[Xbr]at h';simpa using h' l hl
def Abu (a:Ibb):Prop:=(bV a.1=true\/a.1=Fbb)/\a.1.leads.length<=3000000/\a.2.1.length<=10/\∀ m∈a.2.1,m.attr.deps.length<=10
theorem San:Abu Aa3:=⟨.inr rfl,by decide,by decide,fun m hm=>by cases hm⟩
theorem Eae {n me:Int}{m:fC}(hg:bR n=true)(h:m.attr.deps.length<=10)(k:Nat):∀ x∈vU n me m k,x.attr.deps.length<=10:=by
 intro x hx;unfold vU at hx;rw[Zba]at hx;obtain⟨i,-,hx⟩:=hx;split at hx
 ·cases hx
 ·rw[Vbp]at hx
  subst hx;unfold Vah;simp only;split
  ·have:=aL hg
   simp only[none0,Wb1];omega
  ·exact h
theorem Va4 (r:pO)(rep no:Int)(hl:r.leads.length<=2000000):Abu (jS r rep no):=by
 unfold jS;split
 ·rename_i c0
  unfold Fbj at c0;simp only[Vbk]at c0;obtain⟨⟨⟨⟨⟨c1,c2⟩,c3⟩,c4⟩,c5⟩,c6⟩:=c0;obtain⟨q1,q2,q3⟩:=Hau c1 c2;obtain⟨p1,p2,p3,p4,p5,p6⟩:=iF q3;have hg:=aU (bJ c1);have hn:=aL hg;have hk:=Kau q3 (.inl (by simpa using c4));have hao:=Fbw (me:=r.me) (t:=r.table) (ls:=r.leads) c1 p1 p2 p6 hk
  have da:(Qah (yS r rep no)).attr.deps.length<=10:=by
   have:=(lU p6).2.2.1;show (yS r rep no).attr.deps.length<=10
   omega
  have hac:=Nad r.me r.table r.leads (yS r rep no);refine⟨.inl hao.1,by simp only;omega,?_,?_⟩
  ·simp only
   unfold Ab9;have:=vB r.table.n r.me (Qah (yS r rep no)) r.table.n.toNat;split
   ·simp
   ·rw[Wby];omega
  ·simp only
   unfold Ab9;split
   ·simp
   ·rw[Wby]
    exact Eae hg da _
 ·exact San
def Wa0:kM:=⟨0,0,0,0,0⟩
def sQ (b:Int)(r:bF):bF:=⟨b,r.vote,r.state,r.cmd,r.attr⟩
def rU (n me rep no b:Int)(r:bF):aN:=⟨rep,no,b,3,Wa0,none0 n,none0 n,false,[me],[r]⟩
def Haa (rep no b:Int):fC:=⟨6,0,0,rep,no,b,0,0,Wa0,⟨0,[]⟩⟩
def vS (r:pO)(rep no:Int):Int:=nb (eF r.table rep no).ballot r.me
def Qal (r:pO)(rep no:Int):Bool:=bV r&&inst r.table.n rep no&&!((eF r.table rep no).state==3)&&decide (vS r rep no<=9999)
def aZ (r:pO)(rep no:Int):Ibb :=
 if Qal r rep no then (⟨r.me,nY r.table rep no (sQ (vS r rep no) (eF r.table rep no)),Aam (rU r.table.n r.me rep no (vS r rep no) (eF r.table rep no)) r.leads⟩,vU r.table.n r.me (Haa rep no (vS r rep no)) r.table.n.toNat,true) else Aa3
theorem Xa2 {n b:Int}{r:bF}(h:rowOk n r=true)(h1:r.ballot<b)(h2:b<=9999):rowOk n (sQ b r)=true:=by
 unfold rowOk at h ⊢;unfold sQ;simp only[Vbk,inR,decide_eq_true_eq]at h ⊢;obtain⟨⟨⟨a1,a2⟩,a3⟩,a4⟩:=h;exact⟨⟨⟨⟨by omega,by omega⟩,by omega,by omega⟩,a3⟩,a4⟩
theorem Xa1 {r:pO}{rep no:Int}(c1:bV r=true)(hi:inst r.table.n rep no=true)(c3:((eF r.table rep no).state==3)=false)(c4:vS r rep no<=9999) :
  bV ⟨r.me,nY r.table rep no (sQ (vS r rep no) (eF r.table rep no)),Aam (rU r.table.n r.me rep no (vS r rep no) (eF r.table rep no)) r.leads⟩=true/\rowOk r.table.n (sQ (vS r rep no) (eF r.table rep no))=true/\rowOk r.table.n (eF r.table rep no)=true/\0<=vS r rep no:=by
 have ht:=bJ c1;have hg:=aU ht;have hn:=aL hg;have hm:=gD c1;have hr:=tT ht hi;have hb:=nP hr;have hp:=Ta1 (b:=(eF r.table rep no).ballot) (me:=r.me) hb.1 hm.1 (by omega);have ob:rowOk r.table.n (sQ (vS r rep no) (eF r.table rep no))=true:=Xa2 hr hp.1 c4;refine⟨nR (nQ (ls:=r.leads) (me:=r.me) c1 hi ob) ?_,ob,hr,by unfold vS;omega⟩;show gP r.table.n r.me _=true
 have h1:Ga7 [r.me] 0 (r.table.n-1)=true:=by
  unfold Ga7;rw[fZ];intro i hi;obtain rfl:i=0:=by simpa using hi
  simp[inR,Faq,atI,hm.1,hm.2]
 have h2:uN [r.me] r.me=true:=by simp[uN]
 have h3:inR (vS r rep no) 0 9999=true:=by
  unfold vS at *;simp[inR];omega
 unfold gP rU Wa0;simp[hi,h1,h2,h3,Ba6 hg,hr,c3]
theorem Oal (r:pO)(rep no:Int)(hl:r.leads.length<=2000000):Abu (aZ r rep no):=by
 unfold aZ;split
 ·rename_i c0
  unfold Qal at c0;simp only[Vbk,Vb9,decide_eq_true_eq]at c0;obtain⟨⟨⟨c1,c2⟩,c3⟩,c4⟩:=c0;have hg:=aU (bJ c1);have hn:=aL hg;have ho:=Xa1 c1 c2 c3 c4;have kd:=mH (rU r.table.n r.me rep no (vS r rep no) (eF r.table rep no)) r.leads;have hal:=vB r.table.n r.me (Haa rep no (vS r rep no)) r.table.n.toNat;exact⟨.inl ho.1,by simp only;omega,by simp only;omega,Eae hg (by simp[Haa]) _⟩
 ·exact San
def zH (r:pO):Int:=((atI r.table.rows r.me).length:Int)+1
def sbA (r:pO)(c:kM):bN:=zC r.table c r.me (zH r)
def sbB (r:pO)(c:kM):Bool:=bV r&&iZ c&&!(c.kind==0)&&decide (((atI r.table.rows r.me).length:Int)<6)&&decide ((sbA r c).seq<=999)
def bE (r:pO)(c:kM):Ibb :=
 if sbB r c then (⟨r.me,nY r.table r.me (zH r) (kG 0 c (sbA r c)),Aam (nG r.me r.me (zH r) 0 c (sbA r c)) r.leads⟩,vU r.table.n r.me (Dac r.me (zH r) 0 c (sbA r c)) r.table.n.toNat,true) else Aa3
theorem Cb2 {p:Int->Prop}{xs:List Int}{k v:Int}(h:∀ x∈xs,p x)(hv:p v):∀ x∈jF xs k v,p x:=fun x hx=>(La9 hx).elim (h x) fun e=>e▸hv
theorem Qae {c:kM}{rep no:Int}{k:Nat}{l:List bF}{a:bN}(hl:l.length<=6)(h:∀ x∈a.deps,0<=x/\x<=6):∀ i,i<=l.length->∀ x∈(uZ c rep no k l a i).deps,0<=x/\x<=6
 |0,_=>h
 | i + 1, hi => by
  have ih:=Qae (c:=c) (rep:=rep) (no:=no) (k:=k) hl h i (by omega);unfold uZ;split
  ·exact ih
  ·exact Cb2 (p:=fun x=>0<=x/\x<=6) ih ⟨by omega,by omega⟩
theorem Qad {t:aM}{c:kM}{rep no:Int}(hr:∀ l∈t.rows,l.length<=6):∀ k,k<=t.rows.length->∀ x∈(zF t c rep no k).deps,0<=x/\x<=6
 | 0, _ => by
  intro x hx
  have:x=0:=by
   unfold zF at hx;simp at hx;exact hx.2
  omega
 | k + 1, hk => by
  unfold zF;exact Qae (hr _ (at_mem (show k<t.rows.length by omega))) (Qad hr k (by omega)) _ (Vb6 _)
theorem xR {t:aM}{c:kM}{rep no:Int}(ht:dZ t=true):(zC t c rep no).deps.length=t.n.toNat/\1<=(zC t c rep no).seq/\(zC t c rep no).seq<=1000/\bZ t.n (zC t c rep no)=decide ((zC t c rep no).seq<=999):=by
 have hg:=aL (aU ht);obtain⟨h1,h2,h3⟩:=Abq (t:=t) (c:=c) (rep:=rep) (no:=no) (M:=999) (by omega) fun l hl r hr=>(pW ((cB ht hl).2 r hr)).2
 have hd:∀ x∈(zC t c rep no).deps,0<=x/\x<=6:=Qad (fun l hl=>(cB ht hl).1) _ (Vb6 _);refine⟨h1,h2,by omega,?_⟩;unfold bZ;have e1:((zC t c rep no).deps.length:Int)=t.n:=by omega
 have e2:((zC t c rep no).deps.all fun x=>inR x 0 6)=true:=by
  rw[Wbg];intro x hx;have:=hd x hx;simp[inR,this.1,this.2]
 rw[e2,e1,beq_self_eq_true,Xbv,Xbv];unfold inR;rw[decide_eq_true (show 0<=(zC t c rep no).seq by omega),Wbf]
theorem Abo {t:aM}{c c':kM}{rep no b:Int}(ht:dZ t=true)(hb:inR b 0 9999=true)(hc:iZ c'=true):rowOk t.n (kG b c' (zC t c rep no))=decide ((zC t c rep no).seq<=999):=by
 have:=(xR (c:=c) (rep:=rep) (no:=no) ht).2.2.2;have gp:0<=b/\b<=9999:=by simpa[inR] using hb
 unfold rowOk kG;simp[hb,hc,this,inR,gp.1,gp.2]
theorem wF {r:pO}(h:bV r=true)(h2:((atI r.table.rows r.me).length:Int)<6):inst r.table.n r.me (zH r)=true/\InB r.table.rows r.me:=by
 have hm:=gD h;have ht:=bJ h;have hl:=bX ht;unfold zH;refine⟨by simp[inst,inR];omega,by unfold InB;omega⟩
theorem Qa5 (r:pO)(c:kM)(hl:r.leads.length<=2000000):Abu (bE r c):=by
 unfold bE;split
 ·rename_i c0
  unfold sbB at c0;simp only[Vbk,decide_eq_true_eq]at c0;obtain⟨⟨⟨⟨c1,c2⟩,c3⟩,c4⟩,c5⟩:=c0;have ht:=bJ c1;have hg:=aU ht;have hn:=aL hg;obtain⟨a1,a2,a3,a4⟩:=xR (c:=c) (rep:=r.me) (no:=zH r) ht;have a5:bZ r.table.n (sbA r c)=true:=by rw[<- decide_eq_true c5];exact a4
  have ho:=Abn (ls:=r.leads) (me:=r.me) (ballot:=0) c1 (wF c1 c4).1 (by decide) a5 c2;have kd:=mH (nG r.me r.me (zH r) 0 c (sbA r c)) r.leads;have hal:=vB r.table.n r.me (Dac r.me (zH r) 0 c (sbA r c)) r.table.n.toNat;refine⟨.inl ho.1,by simp only;omega,by simp only;omega,Eae hg ?_ _⟩;show (zC r.table c r.me (zH r)).deps.length<=10
  omega
 ·exact San
theorem Daf {c:kM}{rep no:Int}{k:Nat}{l:List bF}{a:bN}:∀ i,(uZ c rep no k l a i).deps.length=a.deps.length
 |0=>rfl
 | i + 1 => by
  unfold uZ;split
  ·exact Daf i
  ·simp only[nJ];exact Daf i
theorem Abr {c:kM}{rep no:Int}{k:Nat}{l:List bF}{a:bN}(hb:InB a.deps (k:Int))(h0:atI a.deps (k:Int)<=0):∀ i:Nat,atI (uZ c rep no k l a i).deps (k:Int)<=i
 |0=>by simpa[uZ] using h0
 | i + 1 => by
  have ih:=Abr (c:=c) (rep:=rep) (no:=no) (l:=l) hb h0 i;unfold uZ;split
  ·omega
  ·simp only
   have hl:InB (uZ c rep no k l a i).deps (k:Int):=by unfold InB at hb ⊢;rw[Daf];exact hb
   rw[wE hl];omega
theorem Iax {c:kM}{rep no:Int}{k j:Nat}{l:List bF}{a:bN}(hj:j≠k):∀ i:Nat,atI (uZ c rep no k l a i).deps (j:Int)=atI a.deps (j:Int)
 |0=>rfl
 | i + 1 => by
  unfold uZ;split
  ·exact Iax hj i
  ·simp only
   rw[sK (by omega) (by omega) (by omega)];exact Iax hj i
theorem Qac {t:aM}{c:kM}{rep no:Int}:∀ k:Nat,∀ j:Nat,k<=j->j<t.n.toNat->atI (zF t c rep no k).deps (j:Int)=0
 | 0, j, _, hj => by
  unfold zF;simp only;rw[bH (by rw[Wb1];exact hj),List.getElem_replicate]
 | k + 1, j, hk, hj => by
  unfold zF;rw[Iax (by omega)];exact Qac k j (by omega) hj
end Go.Proofs.YtgpamlpecmldfaaGreat.Rf
