/- Terms for the program's functions, and that they are right: part 9 of 10. -/
import Derived.Test.YtpgnlmfmlffjcaaGreatRf8
import Derived.Lib.ItoaNum
open Bool renaming and_eq_true → Sbu, false_eq_true → Sbv, not_eq_true' → Tbm, or_eq_true → Uba, true_and → Ubw, or_false → Ubz, and_true → Ub8, eq_iff_iff → Vba, or_true → Vbk, true_or → Wbc
open Int renaming toNat_natCast → Tbk
open List renaming length_cons → Sbw, length_nil → Sbx, length_append → Sby, mem_append_left → Sbz, getElem?_eq_getElem → Sb0, replicate → Sb1, mem_append_right → Sb2, append_assoc → Sb3, getD_eq_getElem?_getD → Sb4, length_map → Sb5, mem_singleton → Sb9, mem_cons_of_mem → Tba, append_nil → Tbb, length_take → Tbc, mem_cons_self → Tbe, getElem?_append_right → Tbf, take_length → Tbh, map_cons → Tbn, all_eq_true → Tbp, length_replicate → Tbq, filter_append → Tbu, length_drop → Tbx, map_append → Tby, filter_nil → Tbz, drop_eq_getElem_cons → Tb6, mem_cons → Tb7, length_filter_le → Ubb, length_set → Ubn, filter_cons → Ubq, length_pos_of_mem → Ubu, take_append_drop → Ubx, mem_range → Ub2, cons_append → Ub3, getElem_mem → Ub4, flatMap_append → Ub9, range_succ → Vbb, getElem_map → Vbc, mem_of_mem_drop → Vbe, foldl_cons → Vbg, mem_flatMap → Vbi, singleton_append → Vbl, pairwise_cons → Vbp, mem_append → Vbs, take_succ_eq_append_getElem → Vb2, range → Vb5, any_eq_true → Vb8, all_cons → Vb9, pairwise_map → Wba, getElem_inj → Wbg, mem_filter → Wbl, pairwise_append → Wbm, ext_getElem → Wbq
open Nat renaming le_refl → Sb7, lt_or_ge → Tbi, le_trans → Tbr, zero_le → Ubo
set_option linter.unusedSimpArgs false
set_option linter.unusedVariables false
set_option linter.unnecessarySimpa false
set_option linter.unusedSectionVars false
namespace Go.Proofs.YtpgnlmfmlffjcaaGreat.Rf
set_option linter.unusedVariables false
set_option linter.unusedSimpArgs false
theorem iV:(∀ {α:Type} [Inhabited α] {xs:List α} {k:Int} {a:α},InB xs k->atI (dB xs k a) k=a)/\(∀ {α:Type} {xs:List α} {k:Int} {a b:α},dB (dB xs k a) k b=dB xs k b) /\
  (∀ {α:Type} {xs:List α} {j k:Int} {a:α},InB (dB xs j a) k=InB xs k)/\(∀ {α:Type} {xs:List α} {j:Int} {a:α},(dB xs j a).length=xs.length):=by
 refine⟨?_,?_,?_,?_⟩
 ·intro α _ xs k a h
  have:=h.lt
  rw[dB,atI,Sb4,List.getElem?_set_self this];rfl
 ·intro α xs k a b
  rw[dB,dB,dB,List.set_set]
 ·intro α xs j k a
  unfold InB dB
  rw[Ubn]
 ·intro α xs j a
  exact Ubn ..
def szL {α:Type}(f:α->Nat)(xs:List α):Nat:=xs.length+(xs.map f).sum
def szR (l:Int)(n:Nat):Int:=if (n:Int)<=l then l-n else -1
theorem Pav {α:Type}{f:α->Nat}{x:α}{xs:List α}:szL f (x::xs)=1+f x+szL f xs:=by simp[szL];omega
theorem lQ {α:Type}{f:α->Nat}:∀ {xs:List α} {x:α},x∈xs->1+f x<=szL f xs
 |[],x,h=>by cases h
 | y :: ys, x, h => by
  rw[Pav]
  rcases List.mem_cons.1 h with rfl|h
  ·omega
  ·have:=lQ (f:=f) h
   omega
theorem kN {α:Type}{xs:List α}:szL (fun _=>0) xs=xs.length:=by
 have:∀ xs:List α,(xs.map fun _=>0).sum=0:=fun xs=>by
  induction xs with
  |nil=>rfl
  |cons x xs ih=>simp only[Tbn,List.sum_cons,ih]
 rw[szL,this];rfl
theorem lS {α:Type}{f:α->Nat}{xs:List α}:xs.length<=szL f xs:=by unfold szL;omega
section
variable {T:Nat->Ent} {β:Type} {α:Type} [Inhabited α]
theorem Aba {body:Tm β}{ρ:List D}{a:aO}(xs:List α)(f:α->Nat)(l:Int)(h0:a.val ρ=i64 l)(hl:0<=l)(hl':l<=1048576)
  (h1:∀ (i:Nat) (m:Int),i<xs.length->InB xs (i:Int)->decide ((i:Int)<xs.length)=true->0<=m->m<=1048576->(f (atI xs i):Int)<=m->szR m (f (atI xs i))=m-f (atI xs i)->decide (m-(f (atI xs i):Int)<0)=false->Er T body (ρ++[i64 m,i64 i])=some (.cont,[i64 (m-f (atI xs i)),i64 ((i:Int)+1)]))
  (h2:∀ (i:Nat) (m:Int),i<xs.length->InB xs (i:Int)->decide ((i:Int)<xs.length)=true->0<=m->m<=1048576->m<f (atI xs i)->szR m (f (atI xs i))=-1->decide ((-1:Int)<0)=true->Er T body (ρ++[i64 m,i64 i])=some (.ret,[i64 (-1)]))
  (h3:∀ m:Int,decide ((xs.length:Int)<xs.length)=false->Er T body (ρ++[i64 m,i64 xs.length])=some (.yield 1,[i64 m])) :
  Er T (.loop [a,.c (i64 0)] body) ρ=nI (decide (((xs.map f).sum:Int)<=l)) (some (.yield 1,[i64 (l-(xs.map f).sum)])) (some (.ret,[i64 (-1)])):=by
 have hall:∀ (ys:List α) (i:Nat) (m:Int),0<=m->Eae (fun (_:Nat) x (m:Int)=>if (f x:Int)<=m then Rd1.go (m-f x) else .out (.ret,[i64 (-1)])) i ys m=if ((ys.map f).sum:Int)<=m then .go (m-(ys.map f).sum) else .out (.ret,[i64 (-1)]):=by
  intro ys
  induction ys with
  | nil =>
   intro i m hm
   simp only[Eae,List.map_nil,List.sum_nil]
   rw[if_pos (by simpa using hm)]
   simp
  | cons y ys ih =>
   intro i m hm
   simp only[Eae,Tbn,List.sum_cons]
   by_cases h:(f y:Int)<=m
   ·rw[if_pos h]
    simp only
    rw[ih (i+1) _ (by omega)]
    by_cases h4:((ys.map f).sum:Int)<=m-f y
    ·rw[if_pos h4,if_pos (by omega)]
     congr 1
     omega
    ·rw[if_neg h4,if_neg (by omega)]
   ·rw[if_neg h]
    simp only
    rw[if_neg (by omega)]
 obtain⟨q,h4,h5⟩:=Mb3 (T:=T) (body:=body) (ρ:=ρ) (init:=[a,.c (i64 0)]) xs (fun i (m:Int)=>[i64 m,i64 i]) l (fun _ x m=>if (f x:Int)<=m then .go (m-f x) else .out (.ret,[i64 (-1)])) (fun _ m=>0<=m/\m<=1048576) (fun m=>(.yield 1,[i64 m])) (by show [a.val ρ,_]=_;rw[h0];rfl) ⟨hl,hl'⟩
  (fun i m hi hm=>by
   by_cases e:(f (atI xs i):Int)<=m
   ·rw[if_pos e]
    refine⟨h1 i m hi (aG.2 hi) (by simp;omega) hm.1 hm.2 e (by rw[szR,if_pos e]) (by simp;omega),fun s' h=>?_,fun r h=>by cases h⟩
    simp only[Rd1.go.injEq]at h
    omega
   ·rw[if_neg e]
    refine⟨h2 i m hi (aG.2 hi) (by simp;omega) hm.1 hm.2 (by omega) (by rw[szR,if_neg e]) rfl,fun s' h=>by simp at h,fun r h=>?_⟩
    simp only[Rd1.out.injEq]at h
    rw[<- h];simp)
  (fun m hm=>⟨h3 m (by simp),by simp⟩)
 rw[h4]
 rw[hall xs 0 l hl]at h5
 by_cases h:((xs.map f).sum:Int)<=l
 ·rw[if_pos h]at h5
  rw[decide_eq_true h]
  rcases h5 with ⟨s,h5,-,rfl⟩|h5
  ·simp only[Rd1.go.injEq]at h5
   rw[<- h5];rfl
  ·cases h5
 ·rw[if_neg h]at h5
  rw[decide_eq_false h]
  rcases h5 with ⟨s,h5,-⟩|h5
  ·cases h5
  ·simp only[Rd1.out.injEq]at h5
   rw[<- h5];rfl
theorem Na5 {body:Tm β}{ρ:List D}{a:aO}[Enc α](xs:List α)(h0:a.val ρ=rL (Sb1 xs.length (default:α)))
  (h1:∀ (i:Nat) (ys:List α),i<xs.length->InB xs (i:Int)->InB ys (i:Int)->decide ((i:Int)<xs.length)=true->Er T body (ρ++[rL ys,i64 i])=some (.cont,[rL (dB ys i (atI xs i)),i64 ((i:Int)+1)]))
  (h2:∀ ys:List α,decide ((xs.length:Int)<xs.length)=false->Er T body (ρ++[rL ys,i64 xs.length])=some (.yield 1,[rL ys])) :
  Er T (.loop [a,.c (i64 0)] body) ρ=some (.yield 1,[rL xs]):=by
 have key:=Uae (T:=T) (body:=body) (ρ:=ρ) (fun i=>xs.length-i) (fun i=>i<=xs.length) (fun i=>[rL (upto default xs i),i64 (i:Nat)]) (fun q=>q=(.yield 1,[rL xs]))
  (fun i hi=>by
   rcases Tbi i xs.length with hlt|hge
   ·refine⟨_,h1 i (upto default xs i) hlt (aG.2 hlt) (aG.2 (by rw[Jaw _ _ hi];exact hlt)) (by simp;omega),.inl ⟨rfl,i+1,by omega,by omega,?_⟩⟩
    have:dB (upto default xs i) (i:Int) (atI xs i)=upto default xs (i+1):=by
     rw[dB]
     exact Jav default xs (by rw[bC hlt];exact Sb0 hlt)
    rw[this];simp
   ·obtain rfl:i=xs.length:=by omega
    refine⟨_,h2 _ (by simp),.inr ⟨by simp,?_⟩⟩
    rw[Jax])
  xs.length 0 (by omega) (by omega) [a,.c (i64 0)] (by show [a.val ρ,_]=_;rw[h0,Eav];rfl)
 obtain⟨q,h4,rfl⟩:=key
 exact h4
def mkL {α:Type}(c:α->Nat)(f:α->Int->α):List α->Int->List α
 |[],_=>[]
 |x::xs,k=>f x k::mkL c f xs (k+c x)
def ctL {α:Type}(c:α->Nat)(xs:List α):Nat:=(xs.map c).sum
theorem uU {α:Type}{c:α->Nat}{f:α->Int->α}:∀ {xs:List α} {k:Int},(mkL c f xs k).length=xs.length
 |[],_=>rfl
 |x::xs,k=>by simp[mkL,uU]
theorem Ebo {c:α->Nat}{f:α->Int->α}:∀ {xs:List α} {k:Int} {i:Nat},i<xs.length->atI (mkL c f xs k) (i:Int)=f (atI xs i) (k+ctL c (xs.take i))
 |x::xs,k,0,h=>by simp[mkL,atI,ctL]
 | x :: xs, k, i + 1, h => by
  have ih:=Ebo (c:=c) (f:=f) (xs:=xs) (k:=k+c x) (i:=i) (by simpa using h)
  rw[mkL,wM,wM,List.getD_cons_succ,List.getD_cons_succ,<- wM,ih,<- wM]
  congr 1
  simp only[ctL,List.take_succ_cons,Tbn,List.sum_cons]
  omega
theorem Raj {c:α->Nat}{xs:List α}{i:Nat}(h:i<xs.length):ctL c (xs.take (i+1))=ctL c (xs.take i)+c (atI xs i):=by
 rw[Vb2 h,bC h]
 unfold ctL
 rw[Tby,List.sum_append]
 simp
omit [Inhabited α] in
theorem Mat {c:α->Nat}:∀ {xs:List α} {i:Nat},ctL c (xs.take i)<=ctL c xs
 |[],i=>by simp
 |x::xs,0=>by simp[ctL]
 | x :: xs, i + 1 => by
  have:=Mat (c:=c) (xs:=xs) (i:=i)
  simp only[ctL,List.take_succ_cons,Tbn,List.sum_cons]at this ⊢
  omega
theorem Paa {c:α->Nat}{xs:List α}{i:Nat}(h:i<xs.length):ctL c (xs.take i)+c (atI xs i)<=ctL c xs:=by
 rw[<- Raj h];exact Mat
def upM (c:α->Nat)(f:α->Int->α)(xs:List α)(k:Int)(i:Nat):List α:=(mkL c f xs k).take i++xs.drop i
omit [Inhabited α] in
theorem Par {c:α->Nat}{f:α->Int->α}{xs:List α}{k:Int}{i:Nat}(h:i<=xs.length):(upM c f xs k i).length=xs.length:=by
 simp[upM,uU];omega
theorem Obi {c:α->Nat}{f:α->Int->α}{xs:List α}{k:Int}{i:Nat}(h:i<xs.length):atI (upM c f xs k i) (i:Int)=atI xs i:=by
 rw[bC (by rw[Par (by omega)];exact h),bC h]
 unfold upM
 rw[List.getElem_append_right (by simp[uU];omega)]
 simp[uU,Nat.min_eq_left (Nat.le_of_lt h)]
theorem Lb2 {c:α->Nat}{f:α->Int->α}{xs:List α}{k:Int}{i:Nat}(h:i<xs.length):dB (upM c f xs k i) (i:Int) (f (atI xs i) (k+ctL c (xs.take i)))=upM c f xs k (i+1):=by
 have hm:i<(mkL c f xs k).length:=by rw[uU];exact h
 unfold upM dB
 rw[Tbk,List.set_append_right _ _ (by simp[uU];omega),Vb2 hm,Sb3]
 congr 1
 have e:i-((mkL c f xs k).take i).length=0:=by simp[uU];omega
 rw[e,Tb6 h,List.set_cons_zero]
 have:=Ebo (c:=c) (f:=f) (k:=k) h
 rw[bC hm]at this
 rw[this];rfl
theorem Kab {body:Tm β}{ρ:List D}{a b d:aO}[Enc α](xs:List α)(c:α->Nat)(f:α->Int->α)(k:Int)(h0:a.val ρ=rL xs)(h0':b.val ρ=i64 k)(hd:d.val ρ=.undef)(hk:0<=k)(hb:k+ctL c xs<=1152921504606846976)
  (h1:∀ (i:Nat) (ys:List α) (m:Int),i<xs.length->ys.length=xs.length->InB ys (i:Int)->decide ((i:Int)<xs.length)=true->atI ys i=atI xs i->0<=m->m+c (atI xs i)<=1152921504606846976->xs.length<=1152921504606846976->Er T body (ρ++[rL ys,.undef,i64 m,i64 i])=some (.cont,[rL (dB ys i (f (atI xs i) m)),.undef,i64 (m+c (atI xs i)),i64 ((i:Int)+1)]))
  (h2:∀ (ys:List α) (m:Int),ys.length=xs.length->decide ((xs.length:Int)<xs.length)=false->Er T body (ρ++[rL ys,.undef,i64 m,i64 xs.length])=some (.yield 1,[rL ys,i64 m])) (hlen:xs.length<=1152921504606846976) :
  Er T (.loop [a,d,b,.c (i64 0)] body) ρ=some (.yield 1,[rL (mkL c f xs k),i64 (k+ctL c xs)]):=by
 have key:=Uae (T:=T) (body:=body) (ρ:=ρ) (fun i=>xs.length-i) (fun i=>i<=xs.length) (fun i=>[rL (upM c f xs k i),.undef,i64 (k+ctL c (xs.take i)),i64 (i:Nat)]) (fun q=>q=(.yield 1,[rL (mkL c f xs k),i64 (k+ctL c xs)]))
  (fun i hi=>by
   rcases Tbi i xs.length with hlt|hge
   ·have h3:=Paa (c:=c) hlt
    refine⟨_,h1 i (upM c f xs k i) (k+ctL c (xs.take i)) hlt (Par hi) (aG.2 (by rw[Par hi];exact hlt)) (by simp;omega) (Obi hlt) (by omega) (by omega) hlen,.inl ⟨rfl,i+1,by omega,by omega,?_⟩⟩
    rw[Lb2 hlt,Raj hlt]
    simp only[Int.natCast_add,Int.add_assoc];rfl
   ·obtain rfl:i=xs.length:=by omega
    refine⟨_,h2 _ _ (Par hi) (by simp),.inr ⟨by simp,?_⟩⟩
    have e:upM c f xs k xs.length=mkL c f xs k:=by
     unfold upM
     rw[List.drop_length,Tbb,List.take_of_length_le (by rw[uU];omega)]
    rw[e,Tbh])
  xs.length 0 (by omega) (by omega) [a,d,b,.c (i64 0)] (by show [a.val ρ,d.val ρ,b.val ρ,_]=_;rw[h0,h0',hd];simp[upM,ctL,aO.val])
 obtain⟨q,h4,rfl⟩:=key
 exact h4
theorem Ab2 {body:Tm β}{ρ:List D}{b:aO}(xs:List α)(c:α->Nat)(f:α->Int->α)(k:Int)(h0':b.val ρ=i64 k)(hk:0<=k)(hb:k+ctL c xs<=1152921504606846976)(hlen:xs.length<=1152921504606846976)
  (h1:∀ (i:Nat) (m:Int),i<xs.length->InB (mkL c f xs k) (i:Int)->(mkL c f xs k).length=xs.length->decide ((i:Int)<xs.length)=true->atI (mkL c f xs k) i=f (atI xs i) m->0<=m->m+c (atI xs i)<=1152921504606846976->xs.length<=1152921504606846976->Er T body (ρ++[i64 m,i64 i])=some (.cont,[i64 (m+c (atI xs i)),i64 ((i:Int)+1)]))
  (h2:∀ m:Int,(mkL c f xs k).length=xs.length->decide ((xs.length:Int)<xs.length)=false->Er T body (ρ++[i64 m,i64 xs.length])=some (.yield 1,[i64 m])) :
  Er T (.loop [b,.c (i64 0)] body) ρ=some (.yield 1,[i64 (k+ctL c xs)]):=by
 have key:=Uae (T:=T) (body:=body) (ρ:=ρ) (fun i=>xs.length-i) (fun i=>i<=xs.length) (fun i=>[i64 (k+ctL c (xs.take i)),i64 (i:Nat)]) (fun q=>q=(.yield 1,[i64 (k+ctL c xs)]))
  (fun i hi=>by
   rcases Tbi i xs.length with hlt|hge
   ·have h3:=Paa (c:=c) hlt
    refine⟨_,h1 i (k+ctL c (xs.take i)) hlt (aG.2 (by rw[uU];exact hlt)) uU (by simp;omega) (Ebo hlt) (by omega) (by omega) hlen,.inl ⟨rfl,i+1,by omega,by omega,?_⟩⟩
    rw[Raj hlt]
    simp only[Int.natCast_add,Int.add_assoc];rfl
   ·obtain rfl:i=xs.length:=by omega
    refine⟨_,h2 _ uU (by simp),.inr ⟨by simp,?_⟩⟩
    rw[Tbh])
  xs.length 0 (by omega) (by omega) [b,.c (i64 0)] (by show [b.val ρ,_]=_;rw[h0'];simp[ctL,aO.val])
 obtain⟨q,h4,rfl⟩:=key
 exact h4
end
theorem Jam {α:Type}{c f:α->Nat}{m:Nat}(hm:1<=m)(h:∀ x,c x<=m+m*f x):∀ xs:List α,ctL c xs<=m*szL f xs
 |[]=>by simp[ctL]
 | x :: xs => by
  have ih:=Jam hm h xs
  have h1:=h x
  rw[Pav]
  simp only[ctL,Tbn,List.sum_cons]at ih ⊢
  rw[Nat.mul_add,Nat.mul_add]
  omega
theorem lt0 {k:Int}(h:0<=k):decide (k<0)=false:=by simp;omega
theorem Qbw:decide ((-1:Int)<0)=true:=rfl
theorem Nbw {α:Type}[Enc α]{tys:List Ty}{bytes:Nat}{P:α->Prop}{d:D}(hs:tys.length=Enc.sz α)(hd:∀ ds,WTs tys ds->∃ a:α,ds=Enc.enc a/\P a)(h:WT (.sl bytes tys) d):∃ xs:List α,d=rL xs/\xs.length*bytes<=reachBytes/\∀ x∈xs,P x:=by
 simp only[WT]at h
 obtain⟨rs,rfl,h1,h2⟩:=h
 have key:∀ rs:List (List D),(∀ r∈rs,WTs tys r)->∃ xs:List α,rs=xs.map Enc.enc/\∀ x∈xs,P x:=by
  intro rs
  induction rs with
  |nil=>exact fun _=>⟨[],rfl,by simp⟩
  | cons r rs ih =>
   intro h
   obtain⟨xs,hx,hp⟩:=ih fun r hr=>h r (Tba _ hr)
   obtain⟨a,ha,hpa⟩:=hd r (h r Tbe)
   exact⟨a::xs,by rw[hx,ha];rfl,by simpa using ⟨hpa,hp⟩⟩
 obtain⟨xs,rfl,hp⟩:=key rs h2
 exact⟨xs,by rw[hs];rfl,by simpa using h1,hp⟩
theorem yH {d:D}(h:WT (.int .i64) d):∃ n:Int,d=i64 n/\-9223372036854775808<=n/\n<=9223372036854775807:=by
 obtain⟨n,rfl,h1,h2⟩:=h
 exact⟨n,rfl,h1,h2⟩
theorem Lac {n b:Nat}(h:n*b<=reachBytes)(hb:0<b):n<=reachBytes:=Tbr (Nat.le_mul_of_pos_right n hb) h
end Go.Proofs.YtpgnlmfmlffjcaaGreat.Rf

namespace Go.Proofs.YtpgnlmfmlffjcaaGreat.Rf
set_option linter.unusedVariables false
set_option linter.unusedSimpArgs false
theorem Nbi (ds:List D)(h:WTs [.int .i64] ds):∃ x:Int,ds=Enc.enc x/\True:=by
 simp only[WTs]at h
 obtain⟨d,r,rfl,w,rfl⟩:=h
 obtain⟨x,rfl,-,-⟩:=yH w
 exact⟨x,rfl,trivial⟩
def Rah (x:oN):Nat:=1+1+1+1+1
theorem Bbd (x:oN):Rah x=5:=by
 unfold Rah
 try omega
def bS (x:iN):Nat:=szL (fun _=>0) x.deps
def Eau (x:iN):Prop:=(x.deps.length<=140737488351232)
def Rai (x:iN):Nat:=1+ctL (fun _=>1) x.deps
theorem Fb2 (x:iN):Rai x=1+ctL (fun _=>1) x.deps:=by
 unfold Rai
 try omega
theorem Dbl (x:iN):bS x=x.deps.length:=by
 unfold bS
 simp only[kN]
 try omega
def aL (x:aY):Nat:=bS x.attr
def qQ (x:aY):Prop:=(Eau x.attr)
def iH (x:aY):Nat:=1+1+1+Rah x.cmd+Rai x.attr
def Hav (x:aY)(k:Int):aY:=⟨(k),(k+1),(k+1+1),⟨(k+1+1+1),(k+1+1+1+1),(k+1+1+1+1+1),(k+1+1+1+1+1+1),(k+1+1+1+1+1+1+1)⟩,⟨(k+1+1+1+1+1+1+1+1),(mkL (fun _=>1) (fun _ k=>k) x.attr.deps (k+1+1+1+1+1+1+1+1+1))⟩⟩
theorem Raf (x:aY):iH x=9+ctL (fun _=>1) x.attr.deps:=by
 unfold iH
 simp only[Bbd]
 simp only[Fb2]
 try omega
theorem Za9 (x:aY):aL x=x.attr.deps.length:=by
 unfold aL
 simp only[kN,Dbl]
 try omega
theorem Bbe (x:aY):iH x<=16+16*aL x:=by
 have h0:=Jam (c:=(fun _=>1)) (f:=(fun _=>0)) (m:=16) (by omega) (fun _=>by simp) x.attr.deps
 rw[Raf,Za9]
 try simp only[kN]at *
 omega
theorem Ibd (ds:List D)(h:WTs [.int .i64,.int .i64,.int .i64,.int .i64,.int .i64,.int .i64,.int .i64,.int .i64,.int .i64,.sl 8 [.int .i64]] ds):∃ x:aY,ds=Enc.enc x/\qQ x:=by
 simp only[WTs]at h
 obtain⟨d0,r0,rfl,w0,d1,r1,rfl,w1,d2,r2,rfl,w2,d3,r3,rfl,w3,d4,r4,rfl,w4,d5,r5,rfl,w5,d6,r6,rfl,w6,d7,r7,rfl,w7,d8,r8,rfl,w8,d9,r9,rfl,w9,rfl⟩:=h
 obtain⟨x0,rfl,-,-⟩:=yH w0
 obtain⟨x1,rfl,-,-⟩:=yH w1
 obtain⟨x2,rfl,-,-⟩:=yH w2
 obtain⟨x3,rfl,-,-⟩:=yH w3
 obtain⟨x4,rfl,-,-⟩:=yH w4
 obtain⟨x5,rfl,-,-⟩:=yH w5
 obtain⟨x6,rfl,-,-⟩:=yH w6
 obtain⟨x7,rfl,-,-⟩:=yH w7
 obtain⟨x8,rfl,-,-⟩:=yH w8
 obtain⟨x9,rfl,l9,p9⟩:=Nbw (α:=Int) (P:=fun _=>True) rfl Nbi w9
 exact⟨⟨x0,x1,x2,⟨x3,x4,x5,x6,x7⟩,⟨x8,x9⟩⟩,rfl,Lac l9 (by decide)⟩
theorem Fbz (ds:List D)(h:WTs [.sl 96 [.int .i64,.int .i64,.int .i64,.int .i64,.int .i64,.int .i64,.int .i64,.int .i64,.int .i64,.sl 8 [.int .i64]]] ds):∃ x:(List aY),ds=Enc.enc x/\x.length<=140737488351232/\∀ y0∈x,qQ y0:=by
 simp only[WTs]at h
 obtain⟨d,r,rfl,w,rfl⟩:=h
 obtain⟨x,rfl,l,p⟩:=Nbw (α:=aY) (P:=fun y=>qQ y) rfl Ibd w
 exact⟨x,rfl,⟨Lac l (by decide),p⟩⟩
def bQ (x:aM):Nat:=szL (szL aL) x.rows
def uI (x:aM):Prop:=(x.rows.length<=140737488351232/\∀ y0∈x.rows,y0.length<=140737488351232/\∀ y1∈y0,qQ y1)
theorem Oab (x:aM):bQ x=szL (szL aL) x.rows:=by
 unfold bQ
 simp only[kN]
 try omega
theorem Oa9 (ds:List D)(h:WTs [.int .i64,.sl 24 [.sl 96 [.int .i64,.int .i64,.int .i64,.int .i64,.int .i64,.int .i64,.int .i64,.int .i64,.int .i64,.sl 8 [.int .i64]]]] ds):∃ x:aM,ds=Enc.enc x/\uI x:=by
 simp only[WTs]at h
 obtain⟨d0,r0,rfl,w0,d1,r1,rfl,w1,rfl⟩:=h
 obtain⟨x0,rfl,-,-⟩:=yH w0
 obtain⟨x1,rfl,l1,p1⟩:=Nbw (α:=(List aY)) (P:=fun y=>y.length<=140737488351232/\∀ y0∈y,qQ y0) rfl (Fbz) w1
 exact⟨⟨x0,x1⟩,rfl,⟨Lac l1 (by decide),p1⟩⟩
def Rag (x:lT):Nat:=1+1
theorem Fb1 (x:lT):Rag x=2:=by
 unfold Rag
 try omega
def iR (x:bV):Nat:=1+1+Rah x.cmd+Rag x.told
def xH (x:bV)(k:Int):bV:=⟨(k),(k+1),⟨(k+1+1),(k+1+1+1),(k+1+1+1+1),(k+1+1+1+1+1),(k+1+1+1+1+1+1)⟩,⟨(k+1+1+1+1+1+1+1),(k+1+1+1+1+1+1+1+1)⟩⟩
theorem yC (x:bV):iR x=9:=by
 unfold iR
 simp only[Bbd]
 simp only[Fb1]
 try omega
theorem Cbu (x:bV):iR x<=16+16*(fun _:bV=>0) x:=by
 rw[yC]
 simp
end Go.Proofs.YtpgnlmfmlffjcaaGreat.Rf

namespace Go.Proofs.YtpgnlmfmlffjcaaGreat.Rf
set_option linter.unusedVariables false
set_option linter.unusedSimpArgs false
theorem SZ:(∀ b:Bool,(b&&true)=b)/\(∀ b:Bool,(true&&b)=b)/\(∀ b:Bool,(b&&false)=false)/\(∀ b:Bool,(false&&b)=false) /\
  (∀ b:Bool,(b||true)=true)/\(∀ b:Bool,(true||b)=true)/\(∀ b:Bool,(b||false)=b)/\(∀ b:Bool,(false||b)=b)/\((!true)=false)/\((!false)=true) :=
 ⟨Ub8,Ubw,Bool.and_false,Bool.false_and,Vbk,Wbc,Ubz,Bool.false_or,rfl,rfl⟩
theorem aB {γ:Type}{a r:γ}(h:nI true a r=r):a=r:=h
theorem S0:type_of% (And.intro Sbv (And.intro @ite_true.{1} (And.intro @ite_false.{1} (And.intro @SA (And.intro @SB (And.intro @SC (And.intro @SP (And.intro @SQ (And.intro @SZ (And.intro @beq_self_eq_true.{0} (And.intro @decide_true (And.intro @decide_false (And.intro @Qbc @Qbf))))))))))))):=And.intro Sbv (And.intro @ite_true.{1} (And.intro @ite_false.{1} (And.intro @SA (And.intro @SB (And.intro @SC (And.intro @SP (And.intro @SQ (And.intro @SZ (And.intro @beq_self_eq_true.{0} (And.intro @decide_true (And.intro @decide_false (And.intro @Qbc @Qbf))))))))))))
theorem Ca4 {x y:Bool}(h:x=true↔y=true):some [D.bool x]=some [D.bool y]:=by rw[Bool.eq_iff_iff.2 h]
def bK (n:Int):Bool:=n==3||n==5
theorem aT {n:Int}(h:bK n=true):n=3\/n=5:=by simpa[bK] using h
def inst (n rep no:Int):Bool:=inR rep 0 (n-1)&&inR no 1 6
def kX (c:oN):Bool :=
 if c.kind==0 then decide (c=⟨0,0,0,0,0⟩) else if c.kind==1 then inR c.id 1 999&&inR c.src 0 3&&inR c.dst 0 3&&!(c.src==c.dst)&&inR c.amt 1 1000
 else c.kind==2&&inR c.id 1 999&&inR c.src 0 3&&c.dst==0&&c.amt==0
def Bax (c:oN):Int :=
 if !inR c.src 0 3||(c.kind==1&&!inR c.dst 0 3) then 4 else if c.kind==1&&c.src==c.dst then 5 else if !inR c.id 1 999||(c.kind==1&&!inR c.amt 1 1000) then 6 else 0
def nL (n:Int)(a:iN):Bool:=inR a.seq 0 999&&(a.deps.length:Int)==n&&a.deps.all fun x=>inR x 0 6
def none0 (n:Int):iN:=⟨0,Sb1 n.toNat 0⟩
def rowOk (n:Int)(r:aY):Bool :=
 inR r.ballot 0 9999&&inR r.vote 0 r.ballot&&inR r.state 0 3&&(if r.state==0 then r.vote==0&&decide (r.cmd=⟨0,0,0,0,0⟩)&&decide (r.attr=none0 n) else kX r.cmd&&nL n r.attr)
theorem Gac {n:Int}(h:bK n=true):nL n (none0 n)=true:=by
 rcases aT h with rfl|rfl<;>rfl
theorem Ran {c:oN}(h:decide (c=⟨0,0,0,0,0⟩)=true):kX c=true:=by
 rw[of_decide_eq_true h];rfl
theorem Rao {c:oN}:(Bax c==0)=(inR c.src 0 3&&inR c.id 1 999&&(!(c.kind==1)||(inR c.dst 0 3&&!(c.src==c.dst)&&inR c.amt 1 1000))):=by
 unfold Bax
 cases inR c.src 0 3<;>cases inR c.id 1 999<;>cases c.kind==1<;>cases inR c.dst 0 3<;>cases c.src==c.dst<;>cases inR c.amt 1 1000<;>rfl
def Ib5 (xs:List aY):Prop:=xs.length<=10000000000/\∀ r∈xs,r.attr.deps.length<=10000000000
def bX (rows:List (List aY)):Prop:=rows.length<=10000000000/\∀ l∈rows,Ib5 l
theorem Obw (r:aY):aL r=r.attr.deps.length:=kN
theorem Dbr {xs:List aY}(h:szL aL xs<=1048576):Ib5 xs:=by
 refine⟨Tbr (lS (f:=aL)) (by omega),fun r hr=>?_⟩
 have h1:=lQ (f:=aL) hr
 rw[Obw]at h1
 omega
theorem Abh {rows:List (List aY)}(h:szL (szL aL) rows<=1048576):bX rows:=by
 refine⟨Tbr (lS (f:=szL aL)) (by omega),fun l hl=>Dbr ?_⟩
 have h1:=lQ (f:=szL aL) hl
 omega
def aV (t:aM):Bool:=bK t.n&&(t.rows.length:Int)==t.n&&t.rows.all fun l=>l.all (fun r=>rowOk t.n r)&&decide ((l.length:Int)<=6)
def row0 (n:Int):aY:=⟨0,0,0,⟨0,0,0,0,0⟩,none0 n⟩
def cK (t:aM)(rep no:Int):aY:=if no<=(atI t.rows rep).length then atI (atI t.rows rep) (no-1) else row0 t.n
def Rb1:aY:=⟨0,0,0,⟨0,0,0,0,0⟩,⟨0,[]⟩⟩
def vU (t:aM)(rep no:Int):aY×Bool:=if aV t&&inst t.n rep no then (cK t rep no,true) else (Rb1,false)
theorem Aam:(rL ([]:List Int)=.rows 1 [])/\(rL ([]:List (List Int))=.rows 1 [])/\(rL ([]:List aY)=.rows 10 [])/\(rL ([]:List (List aY))=.rows 1 [])/\(rL ([]:List lT)=.rows 2 []):=⟨rfl,rfl,rfl,rfl,rfl⟩
theorem bE {n rep no:Int}(h:inst n rep no=true):0<=rep/\rep<=n-1/\1<=no/\no<=6:=by
 simp only[inst,inR,Sbu,decide_eq_true_eq]at h
 omega
theorem aQ {t:aM}(h:aV t=true):bK t.n=true:=by
 simp only[aV,Sbu]at h;exact h.1.1
theorem bU {t:aM}(h:aV t=true):(t.rows.length:Int)=t.n:=by
 simp only[aV,Sbu,beq_iff_eq]at h;exact h.1.2
theorem bN {t:aM}{rep no:Int}(h:aV t=true)(hi:inst t.n rep no=true):InB t.rows rep:=by
 have:=bU h
 have:=bE hi
 unfold InB;omega
theorem bY {t:aM}(h:aV t=true){l:List aY}(hl:l∈t.rows):l.length<=6/\∀ r∈l,rowOk t.n r=true:=by
 simp only[aV,Sbu,Tbp,decide_eq_true_eq]at h
 have:=h.2 l hl
 exact⟨by omega,this.1⟩
theorem Oak {n:Int}{r:aY}(h:rowOk n r=true)(hg:bK n=true):(r.attr.deps.length:Int)=n:=by
 have h2:nL n r.attr=true:=by
  simp only[rowOk,Sbu]at h
  have h3:=h.2
  split at h3
  ·simp only[Sbu]at h3
   rw[of_decide_eq_true h3.2]
   exact Gac hg
  ·simp only[Sbu]at h3
   exact h3.2
 simp only[nL,Sbu,beq_iff_eq]at h2
 exact h2.1.2
theorem Ka9 {n:Int}{r:aY}(h:rowOk n r=true):kX r.cmd=true:=by
 simp only[rowOk,Sbu]at h
 have h3:=h.2
 split at h3
 ·simp only[Sbu]at h3
  exact Ran h3.1.2
 ·simp only[Sbu]at h3
  exact h3.1
theorem bL {α:Type}[Inhabited α]{xs:List α}{k:Int}(h:InB xs k):atI xs k∈xs:=by
 have h2:=h.lt
 have e:((k.toNat:Nat):Int)=k:=by unfold InB at h;omega
 rw[<- e]
 exact at_mem h2
theorem jX {t:aM}{rep no:Int}(h:aV t=true)(hi:inst t.n rep no=true):rowOk t.n (cK t rep no)=true:=by
 unfold cK
 have hb:=bN h hi
 have hr:=bE hi
 split
 ·exact (bY h (bL hb)).2 _ (bL (by unfold InB;omega))
 ·rcases aT (aQ h) with e|e<;>rw[e]<;>rfl
theorem dQ {t:aM}{rep no:Int}(h:aV t=true)(hi:inst t.n rep no=true):((cK t rep no).attr.deps.length:Int)=t.n:=Oak (jX h hi) (aQ h)
def ext (n:Int)(l:List aY)(no:Int):List aY:=l++Sb1 (no-l.length).toNat (row0 n)
def Daa (t:aM)(rep no:Int)(r:aY):aM:=⟨t.n,dB t.rows rep (dB (ext t.n (atI t.rows rep) no) (no-1) r)⟩
theorem Iad {n:Int}{l:List aY}{no:Int}(h:0<=no):((ext n l no).length:Int)=max (l.length:Int) no:=by
 simp only[ext,Sby,Tbq]
 omega
def nb (b me:Int):Int:=if b<8+me then 8+me else b+1+(me-b-1) % 8
theorem Mb9 {x lo hi:Int}(h:inR x lo hi=true):lo<=x/\x<=hi:=by
 simpa[inR] using h
end Go.Proofs.YtpgnlmfmlffjcaaGreat.Rf

namespace Go.Proofs.YtpgnlmfmlffjcaaGreat.Rf
set_option linter.unusedVariables false
set_option linter.unusedSimpArgs false
def iD (s:List Int)(c:oN):List Int×lT :=
 if c.kind==2 then (s,⟨3,atI s c.src⟩) else if c.kind==1 then
  (if decide (atI s c.src<c.amt) then (s,⟨2,0⟩) else (dB (dB s c.src (atI s c.src-c.amt)) c.dst (atI (dB s c.src (atI s c.src-c.amt)) c.dst+c.amt),⟨1,0⟩))
 else (s,⟨0,0⟩)
theorem jU {α:Type}{xs:List α}{k:Int}{a:α}:(dB xs k a).length=xs.length:=Ubn ..
theorem Jaq {α:Type}[Inhabited α]{xs:List α}{j k:Int}{a:α}(hj:0<=j)(hk:0<=k)(h:j≠k):atI (dB xs j a) k=atI xs k:=by
 unfold atI dB
 rw[Sb4,Sb4,List.getElem?_set_ne (by omega)]
theorem Pai (s:List Int)(c:oN):(iD s c).1.length=s.length:=by
 unfold iD
 split
 ·rfl
 ·split
  ·split
   ·rfl
   ·simp only[jU]
  ·rfl
theorem yG {c:oN}(h:kX c=true):(c.kind=0\/c.kind=1\/c.kind=2)/\(c.kind=1->(0<=c.src/\c.src<=3)/\(0<=c.dst/\c.dst<=3)/\c.src≠c.dst/\1<=c.amt/\c.amt<=1000)/\(c.kind=2->0<=c.src/\c.src<=3):=by
 unfold kX at h
 split at h
 ·rename_i h0
  have:c.kind=0:=by simpa using h0
  exact⟨.inl this,by omega,by omega⟩
 ·split at h
  ·rename_i h1
   have:c.kind=1:=by simpa using h1
   simp only[Sbu,inR,decide_eq_true_eq,Tbm,beq_eq_false_iff_ne]at h
   exact⟨by omega,fun _=>⟨h.1.1.1.2,h.1.1.2,h.1.2,h.2⟩,by omega⟩
  ·simp only[Sbu,inR,decide_eq_true_eq,beq_iff_eq]at h
   exact⟨by omega,by omega,fun _=>h.1.1.2⟩
end Go.Proofs.YtpgnlmfmlffjcaaGreat.Rf

namespace Go.Proofs.YtpgnlmfmlffjcaaGreat.Rf
set_option linter.unusedVariables false
set_option linter.unusedSimpArgs false
def fE (xs:List Int)(n:Int):Bool:=xs.any fun x=>x==n
def jT (xs:List Int)(n:Int):Nat:=(xs.takeWhile fun x=>decide (x<n)).length
def Nag (xs:List Int)(n:Int):List Int:=if decide ((jT xs n:Int)<xs.length)&&(atI xs (jT xs n:Nat)==n) then xs else xs.take (jT xs n)++[n]++xs.drop (jT xs n)
theorem Waz (xs:List Int)(n:Int):jT xs n<=xs.length:=(List.takeWhile_sublist _).length_le
theorem Pa9:∀ {xs:List Int} {n:Int} {k:Nat},k<jT xs n->atI xs (k:Int)<n
 |[],n,k,h=>by simp[jT]at h
 | x :: xs, n, k, h => by
  unfold jT at h
  rw[List.takeWhile_cons]at h
  by_cases hx:x<n
  ·rw[if_pos (by simpa using hx)]at h
   cases k with
   |zero=>exact hx
   |succ k=>exact Pa9 (xs:=xs) (k:=k) (by simpa[jT] using h)
  ·rw[if_neg (by simpa using hx)]at h
   simp at h
theorem Qaa:∀ {xs:List Int} {n:Int},jT xs n<xs.length->¬ atI xs (jT xs n:Nat)<n
 |[],n,h=>by simp at h
 | x :: xs, n, h => by
  unfold jT at h ⊢
  rw[List.takeWhile_cons]at h ⊢
  by_cases hx:x<n
  ·rw[if_pos (by simpa using hx)]at h ⊢
   exact Qaa (xs:=xs) (n:=n) (by simpa[jT] using h)
  ·rw[if_neg (by simpa using hx)]
   exact hx
def oP (c:oN):List Int:=if c.kind==1 then [min c.src c.dst,max c.src c.dst] else if c.kind==2 then [c.src] else []
theorem Cab (c:oN):(oP c).length<=2:=by
 unfold oP
 split
 ·simp
 ·split<;>simp
def Dal (a b:oN):Bool:=(oP a).any fun k=>fE (oP b) k
theorem Xaa (a b:oN):Dal a b=Dal b a:=by
 unfold Dal fE
 rw[Vba]
 simp only[Vb8,beq_iff_eq]
 constructor
 ·rintro⟨x,hx,y,hy,rfl⟩;exact⟨y,hy,y,hx,rfl⟩
 ·rintro⟨x,hx,y,hy,rfl⟩;exact⟨y,hy,y,hx,rfl⟩
theorem Sbi {a b:Int}(h:a≠b):Nag [a] b=[min a b,max a b]:=by
 by_cases hx:a<b
 ·have e:jT [a] b=1:=by simp[jT,hx]
  unfold Nag
  rw[e]
  simp[Int.min_eq_left (Int.le_of_lt hx),Int.max_eq_right (Int.le_of_lt hx)]
 ·have e:jT [a] b=0:=by simp[jT,hx]
  unfold Nag
  rw[e]
  simp[atI,h,Int.min_eq_right (by omega:b<=a),Int.max_eq_left (by omega:b<=a)]
def dV (l:List aY)(k:Int)(m:Nat):List (List Int):=(Vb5 m).flatMap fun i:Nat=>if (atI l (i:Int)).state==3 then [[k,(i:Int)+1]] else []
def uG (rows:List (List aY))(m:Nat):List (List Int):=(Vb5 m).flatMap fun k:Nat=>dV (atI rows (k:Int)) k (atI rows (k:Int)).length
def aU (rows:List (List aY)):List (List Int):=uG rows rows.length
theorem kM (l:List aY)(k:Int)(m:Nat):dV l k (m+1)=dV l k m++if (atI l (m:Int)).state==3 then [[k,(m:Int)+1]] else []:=by
 simp[dV,Vbb,Ub9]
theorem sK (rows:List (List aY))(m:Nat):uG rows (m+1)=uG rows m++dV (atI rows (m:Int)) m (atI rows (m:Int)).length:=by
 simp[uG,Vbb,Ub9]
theorem mU (l:List aY)(k:Int):∀ m,(dV l k m).length<=m
 |0=>by simp[dV]
 | m + 1 => by
  have:=mU l k m
  rw[kM,Sby]
  split<;>simp<;>omega
theorem kW {rows:List (List aY)}(h:∀ l∈rows,l.length<=6):∀ {m},m<=rows.length->(uG rows m).length<=6*m
 |0,_=>by simp[uG]
 | m + 1, hm => by
  have h1:=kW h (m:=m) (by omega)
  have h2:=mU (atI rows (m:Int)) m (atI rows (m:Int)).length
  have h3:=h _ (at_mem (show m<rows.length by omega))
  rw[sK,Sby]
  omega
theorem Bbf {rows:List (List aY)}{x:List Int}(h:x∈aU rows):∃ k i:Nat,k<rows.length/\i<(atI rows (k:Int)).length/\x=[(k:Int),(i:Int)+1]/\(atI (atI rows (k:Int)) (i:Int)).state=3:=by
 unfold aU uG dV at h
 simp only[Vbi,Ub2]at h
 obtain⟨k,hk,i,hi,hx⟩:=h
 split at hx
 ·rename_i hs
  exact⟨k,i,hk,hi,by simpa using hx,by simpa using hs⟩
 ·cases hx
theorem eQ {t:aM}(ht:aV t=true){x:List Int}(h:x∈aU t.rows):InB x 0/\InB x 1/\x.length=2/\inst t.n (atI x 0) (atI x 1)=true/\(cK t (atI x 0) (atI x 1)).state=3:=by
 obtain⟨k,i,hk,hi,rfl,hs⟩:=Bbf h
 have h1:=(bY ht (at_mem hk)).1
 have h2:=bU ht
 refine⟨by unfold InB;simp,by unfold InB;simp,rfl,?_,?_⟩
 ·simp only[atI,inst,inR,Sbu,decide_eq_true_eq]
  simp
  omega
 ·show (cK t (k:Int) ((i:Int)+1)).state=3
  unfold cK
  rw[if_pos (by omega),show (i:Int)+1-1=i by omega]
  exact hs
def Nbq (t:aM)(x y:List Int):Bool :=
 Dal (cK t (atI x 0) (atI x 1)).cmd (cK t (atI y 0) (atI y 1)).cmd&&decide (atI (cK t (atI x 0) (atI x 1)).attr.deps (atI y 0)<atI y 1)&&decide (atI (cK t (atI y 0) (atI y 1)).attr.deps (atI x 0)<atI x 1)
def Fba (t:aM):Bool:=Cb0 (fun i=>((aU t.rows).take i).all fun y=>!Nbq t (atI (aU t.rows) (i:Int)) y) (aU t.rows).length
def Xaf (t:aM):Bool×Bool:=if aV t then (Fba t,true) else (false,false)
theorem Dau {t:aM}(ht:aV t=true){x y:List Int}(hx:inst t.n (atI x 0) (atI x 1)=true)(hy:inst t.n (atI y 0) (atI y 1)=true):InB (cK t (atI x 0) (atI x 1)).attr.deps (atI y 0):=by
 have h1:=dQ ht hx
 have h2:=bE hy
 unfold InB
 omega
end Go.Proofs.YtpgnlmfmlffjcaaGreat.Rf

namespace Go.Proofs.YtpgnlmfmlffjcaaGreat.Rf
set_option linter.unusedVariables false
set_option linter.unusedSimpArgs false
end Go.Proofs.YtpgnlmfmlffjcaaGreat.Rf

namespace Go.Proofs.YtpgnlmfmlffjcaaGreat.Rf
set_option linter.unusedVariables false
set_option linter.unusedSimpArgs false
def iQ (l:List (List Int))(x:List Int):Int:=ixF (fun y=>decide (x=y)) l
def sJ (k:Int)(rep no:Int)(m:Nat):List (List Int):=(Vb5 m).flatMap fun i:Nat=>if !(k==rep)||!((i:Int)+1==no) then [[k,(i:Int)+1]] else []
def Jal (deps:List Int)(rep no:Int)(m:Nat):List (List Int):=(Vb5 m).flatMap fun k:Nat=>sJ k rep no (atI deps (k:Int)).toNat
theorem zS (k rep no:Int)(m:Nat):sJ k rep no (m+1)=sJ k rep no m++if !(k==rep)||!((m:Int)+1==no) then [[k,(m:Int)+1]] else []:=by
 simp[sJ,Vbb,Ub9]
theorem Ga1 (deps:List Int)(rep no:Int)(m:Nat):Jal deps rep no (m+1)=Jal deps rep no m++sJ m rep no (atI deps (m:Int)).toNat:=by
 simp[Jal,Vbb,Ub9]
def xZ (t:aM)(rep no:Int):List (List Int):=Jal (cK t rep no).attr.deps rep no (cK t rep no).attr.deps.length
theorem xY (k rep no:Int):∀ m,(sJ k rep no m).length<=m
 |0=>by simp[sJ]
 | m + 1 => by
  have:=xY k rep no m
  rw[zS,Sby]
  split<;>simp<;>omega
theorem rR {deps:List Int}{rep no:Int}(h:∀ d∈deps,d<=6):∀ {m},m<=deps.length->(Jal deps rep no m).length<=6*m
 |0,_=>by simp[Jal]
 | m + 1, hm => by
  have h1:=rR (rep:=rep) (no:=no) h (m:=m) (by omega)
  have h2:=xY (m:Int) rep no (atI deps (m:Int)).toNat
  have h3:=h _ (at_mem (show m<deps.length by omega))
  rw[Ga1,Sby]
  omega
theorem gT {n:Int}{r:aY}(h:rowOk n r=true)(hg:bK n=true):∀ d∈r.attr.deps,0<=d/\d<=6:=by
 have h2:nL n r.attr=true:=by
  simp only[rowOk,Sbu]at h
  have h3:=h.2
  split at h3
  ·simp only[Sbu]at h3
   rw[of_decide_eq_true h3.2]
   exact Gac hg
  ·simp only[Sbu]at h3
   exact h3.2
 simp only[nL,Sbu,Tbp]at h2
 exact fun d hd=>Mb9 (h2.2 d hd)
theorem Caz {deps:List Int}{rep no:Int}{m:Nat}{y:List Int}:y∈Jal deps rep no m↔∃ k i:Nat,k<m/\(i:Int)<atI deps (k:Int)/\¬((k:Int)=rep/\(i:Int)+1=no)/\y=[(k:Int),(i:Int)+1]:=by
 unfold Jal sJ
 simp only[Vbi,Ub2]
 constructor
 ·rintro⟨k,hk,i,hi,hy⟩
  split at hy
  ·rename_i hc
   refine⟨k,i,hk,by omega,?_,by simpa using hy⟩
   simp only[Uba,Tbm,beq_eq_false_iff_ne,ne_eq]at hc
   omega
  ·cases hy
 ·rintro⟨k,i,hk,hi,hne,rfl⟩
  refine⟨k,hk,i,by omega,?_⟩
  rw[if_pos]
  ·simp
  ·simp only[Uba,Tbm,beq_eq_false_iff_ne,ne_eq]
   omega
def nM (xs:List Int):Prop:=xs.Pairwise (· < ·)
theorem Cae:∀ {xs ys:List Int},nM xs->nM ys->(∀ x,x∈xs↔x∈ys)->xs=ys
 |[],[],_,_,_=>rfl
 |[],y::ys,_,_,h=>by have:=(h y).2 Tbe;cases this
 |x::xs,[],_,_,h=>by have:=(h x).1 Tbe;cases this
 | x :: xs, y :: ys, hx, hy, h => by
  unfold nM at hx hy
  rw[Vbp]at hx hy
  have e:x=y:=by
   rcases List.mem_cons.1 ((h x).1 Tbe) with h1|h1
   ·exact h1
   ·rcases List.mem_cons.1 ((h y).2 Tbe) with h2|h2
    ·exact h2.symm
    ·have:=hx.1 y h2
     have:=hy.1 x h1
     omega
  subst e
  congr 1
  refine Cae hx.2 hy.2 fun z=>?_
  constructor
  ·intro hz
   rcases List.mem_cons.1 ((h z).1 (Tba _ hz)) with h1|h1
   ·subst h1
    exact absurd (hx.1 z hz) (by omega)
   ·exact h1
  ·intro hz
   rcases List.mem_cons.1 ((h z).2 (Tba _ hz)) with h1|h1
   ·subst h1
    exact absurd (hy.1 z hz) (by omega)
   ·exact h1
theorem Ta6 {x n:Int}{xs:List Int}:Nag (x::xs) n=if x<n then x::Nag xs n else if x==n then x::xs else n::x::xs:=by
 by_cases h:x<n
 ·rw[if_pos h]
  have e:jT (x::xs) n=jT xs n+1:=by simp[jT,h]
  have ea:atI (x::xs) ((jT xs n+1:Nat):Int)=atI xs (jT xs n:Nat):=by
   rw[wM,wM,List.getD_cons_succ]
  have el:decide (((jT xs n+1:Nat):Int)<(x::xs).length)=decide (((jT xs n:Nat):Int)<xs.length):=by
   simp only[Sbw,decide_eq_decide];omega
  unfold Nag
  rw[e,ea,el]
  split
  ·rfl
  ·simp
 ·rw[if_neg h]
  have e:jT (x::xs) n=0:=by simp[jT,h]
  unfold Nag
  rw[e]
  have ea:atI (x::xs) ((0:Nat):Int)=x:=rfl
  rw[ea]
  have el:decide (((0:Nat):Int)<(x::xs).length)=true:=by simp
  rw[el,Ubw]
  split
  ·rfl
  ·simp
theorem Kaa:∀ {xs:List Int} {n x:Int},x∈Nag xs n↔x∈xs\/x=n
 |[],n,x=>by simp[Nag,jT]
 | y :: ys, n, x => by
  rw[Ta6]
  split
  ·rw[Tb7,Kaa,Tb7,or_assoc]
  ·split
   ·rename_i h
    have:y=n:=by simpa using h
    subst this
    simp[or_comm]
   ·simp only[Tb7]
    constructor
    ·rintro (h|h|h)
     ·exact .inr h
     ·exact .inl (.inl h)
     ·exact .inl (.inr h)
    ·rintro ((h|h)|h)
     ·exact .inr (.inl h)
     ·exact .inr (.inr h)
     ·exact .inl h
theorem Da3:∀ {xs:List Int} {n:Int},nM xs->nM (Nag xs n)
 |[],n,_=>by simp[Nag,jT,nM]
 | y :: ys, n, h => by
  have h':=h
  unfold nM at h
  rw[Vbp]at h
  rw[Ta6]
  split
  ·unfold nM
   rw[Vbp]
   refine⟨fun z hz=>?_,Da3 h.2⟩
   rcases Kaa.1 hz with h1|h1
   ·exact h.1 z h1
   ·omega
  ·split
   ·exact h'
   ·rename_i h1 h2
    have:y≠n:=by simpa using h2
    unfold nM
    rw[Vbp]
    refine⟨fun z hz=>?_,h'⟩
    rcases List.mem_cons.1 hz with h3|h3
    ·omega
    ·have:=h.1 z h3
     omega
theorem Hbk (xs:List Int)(n:Int):(Nag xs n).length<=xs.length+1:=by
 unfold Nag
 split
 ·omega
 ·simp only[Sby,Sbw,Sbx,Tbc,Tbx];omega
def Ja9 (pts ys:List (List Int)):Nat->List Int
 |0=>[]
 |m+1=>if decide (0<=iQ pts (atI ys (m:Int))) then Nag (Ja9 pts ys m) (iQ pts (atI ys (m:Int))) else Ja9 pts ys m
theorem xE (pts ys:List (List Int))(m:Nat):Ja9 pts ys (m+1)=if decide (0<=iQ pts (atI ys (m:Int))) then Nag (Ja9 pts ys m) (iQ pts (atI ys (m:Int))) else Ja9 pts ys m:=rfl
theorem Da2 (pts ys:List (List Int)):∀ m,nM (Ja9 pts ys m)
 |0=>List.Pairwise.nil
 | m + 1 => by
  rw[xE]
  split
  ·exact Da3 (Da2 pts ys m)
  ·exact Da2 pts ys m
theorem Ja8 (pts ys:List (List Int)):∀ m,(Ja9 pts ys m).length<=m
 |0=>by simp[Ja9]
 | m + 1 => by
  have:=Ja8 pts ys m
  rw[xE]
  split
  ·have:=Hbk (Ja9 pts ys m) (iQ pts (atI ys (m:Int)))
   omega
  ·omega
theorem Pa8 {pts ys:List (List Int)}:∀ {m:Nat} {j:Int},j∈Ja9 pts ys m↔∃ i,i<m/\0<=iQ pts (atI ys (i:Nat))/\iQ pts (atI ys (i:Nat))=j
 |0,j=>by simp[Ja9]
 | m + 1, j => by
  rw[xE]
  split
  ·rename_i h
   have h':0<=iQ pts (atI ys (m:Int)):=by simpa using h
   rw[Kaa,Pa8]
   constructor
   ·rintro (⟨i,h1,h2⟩|h1)
    ·exact⟨i,by omega,h2⟩
    ·exact⟨m,by omega,h',h1.symm⟩
   ·rintro⟨i,h1,h2,h3⟩
    rcases Tbi i m with h4|h4
    ·exact .inl ⟨i,h4,h2,h3⟩
    ·obtain rfl:i=m:=by omega
     exact .inr h3.symm
  ·rename_i h
   have h':¬ 0<=iQ pts (atI ys (m:Int)):=by simpa using h
   rw[Pa8]
   constructor
   ·rintro⟨i,h1,h2⟩;exact⟨i,by omega,h2⟩
   ·rintro⟨i,h1,h2,h3⟩
    rcases Tbi i m with h4|h4
    ·exact⟨i,h4,h2,h3⟩
    ·obtain rfl:i=m:=by omega
     exact absurd h2 h'
def Uau (pts:List (List Int))(deps:List Int)(x:List Int)(j:Nat):Bool:=!decide (x=atI pts (j:Int))&&decide (atI (atI pts (j:Int)) 1<=atI deps (atI (atI pts (j:Int)) 0))
def sS (pts:List (List Int))(deps:List Int)(x:List Int)(m:Nat):List Int:=(Vb5 m).flatMap fun j:Nat=>if Uau pts deps x j then [(j:Int)] else []
theorem xR (pts:List (List Int))(deps:List Int)(x:List Int)(m:Nat):sS pts deps x (m+1)=sS pts deps x m++if Uau pts deps x m then [(m:Int)] else []:=by
 simp[sS,Vbb,Ub9]
theorem xS (pts:List (List Int))(deps:List Int)(x:List Int):∀ m,(sS pts deps x m).length<=m
 |0=>by simp[sS]
 | m + 1 => by
  have:=xS pts deps x m
  rw[xR,Sby]
  split<;>simp<;>omega
theorem La0 {pts:List (List Int)}{deps:List Int}{x:List Int}{m:Nat}{j:Int}:j∈sS pts deps x m↔∃ k:Nat,k<m/\Uau pts deps x k=true/\(k:Int)=j:=by
 unfold sS
 simp only[Vbi,Ub2]
 constructor
 ·rintro⟨k,hk,h⟩
  split at h
  ·rename_i hb
   have:j=(k:Int):=by simpa using h
   exact⟨k,hk,hb,this.symm⟩
  ·cases h
 ·rintro⟨k,hk,hb,rfl⟩
  exact⟨k,hk,by rw[if_pos hb];simp⟩
theorem Jaa (pts:List (List Int))(deps:List Int)(x:List Int):∀ m,nM (sS pts deps x m)
 |0=>by simp[sS,nM]
 | m + 1 => by
  rw[xR]
  unfold nM
  rw[Wbm]
  refine⟨Jaa pts deps x m,by split<;>simp,fun a ha b hb=>?_⟩
  obtain⟨k,hk,-,rfl⟩:=La0.1 ha
  split at hb
  ·have:b=(m:Int):=by simpa using hb
   omega
  ·cases hb
theorem Caq {α:Type}[Inhabited α]{p:α->Bool}{xs:List α}(h:0<=ixF p xs):InB xs (ixF p xs)/\p (atI xs (ixF p xs))=true/\∀ k:Nat,(k:Int)<ixF p xs->p (atI xs (k:Int))=false:=by
 unfold ixF at h ⊢
 cases e:xs.findIdx? p with
 |none=>rw[e]at h;simp at h
 | some i =>
  rw[List.findIdx?_eq_some_iff_getElem]at e
  obtain⟨hi,hp,hmin⟩:=e
  refine⟨aG.2 hi,by simp only;rw[bC hi];exact hp,fun k hk=>?_⟩
  have hk':k<i:=by simp only at hk;omega
  rw[bC (by omega)]
  have:=hmin k hk'
  simpa using this
theorem Uak {α:Type}[Inhabited α]{p:α->Bool}{xs:List α}{k:Nat}(hk:k<xs.length)(hp:p (atI xs (k:Int))=true):0<=ixF p xs:=by
 have h:xs.any p=true:=List.any_eq_true.2 ⟨_,at_mem hk,hp⟩
 rw[<- bJ]at h
 exact of_decide_eq_true h
theorem Oa5 {l:List (List Int)}{x:List Int}(h:0<=iQ l x):InB l (iQ l x)/\x=atI l (iQ l x)/\∀ k:Nat,(k:Int)<iQ l x->¬ x=atI l (k:Int):=by
 obtain⟨h1,h2,h3⟩:=Caq (p:=fun y=>decide (x=y)) h
 exact⟨h1,of_decide_eq_true h2,fun k hk=>of_decide_eq_false (h3 k hk)⟩
theorem yE {l:List aY}{k:Int}{m:Nat}{y:List Int}(h:y∈dV l k m):∃ i:Nat,i<m/\y=[k,(i:Int)+1]:=by
 unfold dV at h
 simp only[Vbi,Ub2]at h
 obtain⟨i,hi,h⟩:=h
 split at h
 ·exact⟨i,hi,by simpa using h⟩
 ·cases h
theorem Ga3 (l:List aY)(k:Int):∀ m,(dV l k m).Nodup
 |0=>by simp[dV]
 | m + 1 => by
  rw[kM,List.nodup_append]
  refine⟨Ga3 l k m,by split<;>simp,fun a ha b hb=>?_⟩
  obtain⟨i,hi,rfl⟩:=yE ha
  split at hb
  ·have:b=[k,(m:Int)+1]:=by simpa using hb
   rw[this]
   simp
   omega
  ·cases hb
theorem Iam (rows:List (List aY)):∀ m,(uG rows m).Nodup
 |0=>by simp[uG]
 | m + 1 => by
  rw[sK,List.nodup_append]
  refine⟨Iam rows m,Ga3 ..,fun a ha b hb=>?_⟩
  obtain⟨i,hi,rfl⟩:=yE hb
  unfold uG at ha
  simp only[Vbi,Ub2]at ha
  obtain⟨k,hk,ha⟩:=ha
  obtain⟨i',hi',rfl⟩:=yE ha
  simp
  omega
theorem La3 {t:aM}(ht:aV t=true){x:List Int}(hx:x∈aU t.rows) :
  Ja9 (aU t.rows) (xZ t (atI x 0) (atI x 1)) (xZ t (atI x 0) (atI x 1)).length=sS (aU t.rows) (cK t (atI x 0) (atI x 1)).attr.deps x (aU t.rows).length:=by
 refine Cae (Da2 ..) (Jaa ..) fun j=>?_
 rw[Pa8,La0]
 obtain⟨-,-,hlen,hinst,-⟩:=eQ ht hx
 have hdl:=dQ ht hinst
 have hxe:x=[atI x 0,atI x 1]:=by
  match x,hlen with
  |[a,b],_=>rfl
 have hnd:(aU t.rows).Nodup:=Iam ..
 have htl:=bU ht
 constructor
 ·rintro⟨i,hi,h0,rfl⟩
  have hy:atI (xZ t (atI x 0) (atI x 1)) (i:Int)∈xZ t (atI x 0) (atI x 1):=at_mem hi
  generalize atI (xZ t (atI x 0) (atI x 1)) (i:Int)=y at hy h0 ⊢
  obtain⟨hb,hye,-⟩:=Oa5 h0
  have hk:=hb.lt
  refine⟨(iQ (aU t.rows) y).toNat,hk,?_,by omega⟩
  have e:(((iQ (aU t.rows) y).toNat:Nat):Int)=iQ (aU t.rows) y:=by omega
  unfold Uau
  rw[e,<- hye]
  obtain⟨k,i',h1,h2,h3,rfl⟩:=Caz.1 hy
  have a0:atI [(k:Int),(i':Int)+1] 0=k:=rfl
  have a1:atI [(k:Int),(i':Int)+1] 1=(i':Int)+1:=rfl
  rw[a0,a1]
  simp only[Sbu,Tbm,decide_eq_false_iff_not,decide_eq_true_eq]
  refine⟨fun h=>?_,by omega⟩
  rw[hxe]at h
  simp only[List.cons.injEq,and_true]at h
  exact h3 ⟨h.1.symm,h.2.symm⟩
 ·rintro⟨k,hk,hb,rfl⟩
  obtain⟨k',i',h1,h2,h3,h4⟩:=Bbf (at_mem hk)
  unfold Uau at hb
  rw[h3]at hb
  have a0:atI [(k':Int),(i':Int)+1] 0=k':=rfl
  have a1:atI [(k':Int),(i':Int)+1] 1=(i':Int)+1:=rfl
  rw[a0,a1]at hb
  simp only[Sbu,Tbm,decide_eq_false_iff_not,decide_eq_true_eq]at hb
  have hmem:[(k':Int),(i':Int)+1]∈xZ t (atI x 0) (atI x 1):=by
   refine Caz.2 ⟨k',i',by omega,by omega,fun h=>hb.1 ?_,rfl⟩
   rw[hxe,<- h.1,<- h.2]
  obtain⟨q,hq,he⟩:=List.getElem_of_mem hmem
  have hq':atI (xZ t (atI x 0) (atI x 1)) (q:Int)=atI (aU t.rows) (k:Int):=by rw[bC hq,he,h3]
  have h0:0<=iQ (aU t.rows) (atI (aU t.rows) (k:Int)):=Uak hk (by simp)
  refine⟨q,hq,by rw[hq'];exact h0,?_⟩
  rw[hq']
  obtain⟨hb2,hp',-⟩:=Oa5 h0
  generalize iQ (aU t.rows) (atI (aU t.rows) (k:Int))=f at *
  have hf:=hb2.lt
  have e:((f.toNat:Nat):Int)=f:=by unfold InB at hb2;omega
  rw[<- e,bC hk,bC hf]at hp'
  have:=(Wbg hnd).1 hp'
  omega
def iL (t:aM)(m:Nat):List (List Int):=(Vb5 m).map fun i:Nat=>sS (aU t.rows) (cK t (atI (atI (aU t.rows) (i:Int)) 0) (atI (atI (aU t.rows) (i:Int)) 1)).attr.deps (atI (aU t.rows) (i:Int)) (aU t.rows).length
def sI (t:aM):List (List Int):=iL t (aU t.rows).length
theorem rD (t:aM)(m:Nat):iL t (m+1)=iL t m++[sS (aU t.rows) (cK t (atI (atI (aU t.rows) (m:Int)) 0) (atI (atI (aU t.rows) (m:Int)) 1)).attr.deps (atI (aU t.rows) (m:Int)) (aU t.rows).length]:=by
 simp[iL,Vbb]
theorem rF (t:aM)(m:Nat):(iL t m).length=m:=by simp[iL]
def nK (t:aM):List (List Int)×List (List Int)×Bool:=if aV t&&decide (((aU t.rows).length:Int)<=40) then (aU t.rows,sI t,true) else ([],[],false)
theorem Fbe (t:aM):szL (szL fun _=>0) (nK t).1<=10000/\szL (szL fun _=>0) (nK t).2.1<=10000:=by
 have key:∀ (l:List (List Int)) (a b:Nat),l.length<=a->(∀ x∈l,x.length<=b)->szL (szL fun _=>0) l<=a*(1+b):=by
  intro l
  induction l with
  |nil=>intro a b _ _;simp[szL]
  | cons x l ih =>
   intro a b h1 h2
   rw[Pav,kN]
   cases a with
   |zero=>simp at h1
   | succ a =>
    have:=ih a b (by simpa using h1) fun y hy=>h2 y (Tba _ hy)
    have:=h2 x Tbe
    rw[Nat.succ_mul]
    omega
 unfold nK
 split
 ·rename_i h
  simp only[Sbu,decide_eq_true_eq]at h
  have hl:(aU t.rows).length<=40:=by omega
  refine⟨Tbr (key _ 40 2 hl fun x hx=>?_) (by omega),Tbr (key _ 40 40 (by simp only[sI,rF];exact hl) fun x hx=>?_) (by omega)⟩
  ·have:=(eQ h.1 hx).2.2.1
   omega
  ·unfold sI iL at hx
   simp only[List.mem_map,Ub2]at hx
   obtain⟨i,hi,rfl⟩:=hx
   exact Tbr (xS ..) hl
 ·simp[szL]
end Go.Proofs.YtpgnlmfmlffjcaaGreat.Rf

namespace Go.Proofs.YtpgnlmfmlffjcaaGreat.Rf
set_option linter.unusedVariables false
set_option linter.unusedSimpArgs false
section
variable {T:Nat->Ent} {β:Type}
end
end Go.Proofs.YtpgnlmfmlffjcaaGreat.Rf

namespace Go.Proofs.YtpgnlmfmlffjcaaGreat.Rf
set_option linter.unusedVariables false
set_option linter.unusedSimpArgs false
end Go.Proofs.YtpgnlmfmlffjcaaGreat.Rf

namespace Go.Proofs.YtpgnlmfmlffjcaaGreat.Rf
set_option linter.unusedVariables false
set_option linter.unusedSimpArgs false
theorem wB {α:Type}{xs:List α}{k:Int}{a x:α}(h:x∈dB xs k a):x∈xs\/x=a:=List.mem_or_eq_of_mem_set h
theorem Cbz {s:List Int}{c:oN}{B:Int}(hc:kX c=true)(hl:(s.length:Int)=4)(hq:∀ x∈s,0<=x/\x<=B):∀ x∈(iD s c).1,0<=x/\x<=B+1000:=by
 obtain⟨hk,hm,-⟩:=yG hc
 have h0:∀ x∈s,0<=x/\x<=B+1000:=fun x hx=>by have:=hq x hx;omega
 unfold iD
 split
 ·exact h0
 ·split
  ·rename_i h1
   obtain⟨⟨f1,f2⟩,⟨t1,t2⟩,hne,a1,a2⟩:=hm (by simpa using h1)
   split
   ·exact h0
   ·rename_i h2
    have hbf:InB s c.src:=by unfold InB;omega
    have hbt:InB s c.dst:=by unfold InB;omega
    have hqf:=hq _ (bL hbf)
    have hqt:=hq _ (bL hbt)
    rw[Jaq f1 t1 hne]
    simp only[decide_eq_true_eq]at h2
    intro x hx
    rcases wB hx with hx|rfl
    ·rcases wB hx with hx|rfl
     ·exact h0 x hx
     ·omega
    ·omega
  ·exact h0
end Go.Proofs.YtpgnlmfmlffjcaaGreat.Rf

namespace Go.Proofs.YtpgnlmfmlffjcaaGreat.Rf
set_option linter.unusedVariables false
set_option linter.unusedSimpArgs false
def isBytes (d:D):Prop:=WT (.sl 1 [.int .u8]) d
def Gbh (d:D):Nat:=match d with
 |.rows _ rs=>rs.length
 |_=>0
theorem Ma1 {d:D}(h:isBytes d):aN.len.run [d]=some [i64 (Gbh d)]/\Gbh d<=140737488351232:=by
 obtain⟨rs,rfl,h1,h2⟩:=h
 refine⟨rfl,?_⟩
 simp only[Gbh]
 have:reachBytes=140737488351232:=rfl
 omega
theorem bytes_at {d:D}(h:isBytes d){k:Int}(h0:0<=k)(h1:k<(Gbh d:Nat)):aN.inb.run [d,i64 k]=some []/\∃ b,(aN.row 1 0 [true]).run [d,i64 k]=some [.int .u8 b]/\0<=b/\b<=255:=by
 obtain⟨rs,rfl,h2,h3⟩:=h
 simp only[Gbh]at h1
 refine⟨by simp only[aN.run];rw[if_pos ⟨h0,h1⟩],?_⟩
 have hk:k.toNat<rs.length:=by omega
 have hm:=h3 _ (Ub4 hk)
 simp only[WTs]at hm
 obtain⟨d1,r1,e,⟨b,rfl,hb1,hb2⟩,rfl⟩:=hm
 refine⟨b,?_,hb1,hb2⟩
 simp only[aN.run]
 rw[if_pos ⟨rfl,h0⟩,Sb0 hk,e]
 rfl
def u64 (n:Int):D:=.int .u64 n
theorem Qb4 {a b:Int}:(aN.bin .mul).run [u64 a,.int .u64 b]=some [u64 (IntKind.u64.wrap (a*b))]:=rfl
theorem Qb7 {a b:Int}:(aN.bin .add).run [u64 a,u64 b]=some [u64 (IntKind.u64.wrap (a+b))]:=rfl
theorem Obk {a b:Int}:(aN.bin .add).run [u64 a,.int .u64 b]=some [u64 (IntKind.u64.wrap (a+b))]:=rfl
theorem Qb3 {a:Int}:(aN.bin .shr).run [u64 a,.int .u64 40]=some [u64 (a.fdiv (2 ^ 40))]:=rfl
theorem Qb6 {a:Int}:(aN.bin .and).run [u64 a,.int .u64 255]=some [u64 (IntKind.u64.wrap (BitVec.ofInt 64 a &&& BitVec.ofInt 64 255).toNat)]:=rfl
theorem u_conv {a:Int}:(aN.conv .u64).run [i64 a]=some [u64 (IntKind.u64.wrap a)]:=rfl
theorem Lb4 {a:Int}(h0:0<=a)(h1:a<=255):(aN.conv .i64).run [.int .u8 a]=some [i64 a]:=by
 show some [D.int .i64 (IntKind.i64.wrap a)]=_
 rw[wrap_i64 (by omega) (by omega)]
def Pb2 (a:Int):Int:=IntKind.i64.wrap (IntKind.u64.wrap (BitVec.ofInt 64 a &&& BitVec.ofInt 64 255).toNat)
theorem Qb5 {a:Int}:(aN.conv .i64).run [u64 (IntKind.u64.wrap (BitVec.ofInt 64 a &&& BitVec.ofInt 64 255).toNat)]=some [i64 (Pb2 a)]:=rfl
theorem Abv (a:Int):0<=Pb2 a/\Pb2 a<=255:=by
 unfold Pb2
 have h1:(BitVec.ofInt 64 a &&& BitVec.ofInt 64 255).toNat<=255:=by
  rw[BitVec.toNat_and]
  exact Nat.and_le_right
 generalize (BitVec.ofInt 64 a &&& BitVec.ofInt 64 255).toNat=n at h1
 have h2:IntKind.u64.wrap (n:Int)=n:=IntWalk.u64_in n ⟨by omega,by omega⟩
 rw[h2,wrap_i64 (by omega) (by omega)]
 omega
theorem Ja3 {a b:Int}(h0:0<=a)(hb:0<b):(aN.bin .rem).run [i64 a,i64 b]=some [i64 (a % b)]:=by
 simp only[aN.run,Paf,Baj,if_true]
 rw[if_neg (by omega)]
 rw[Int.tmod_eq_emod_of_nonneg h0]
 rfl
theorem lF {T:Nat->Ent}{β γ:Type}{body:Tm β}{ρ:List D}{init:List aO}(m:γ->Nat)(inv:γ->Prop)(vs:γ->List D)(Q:Kind×List D->Prop)(c0:γ)(h0:init.map (·.val ρ)=vs c0)(hi:inv c0)
  (h:∀ c,inv c->(∃ c',Er T body (ρ++vs c)=some (.cont,vs c')/\inv c'/\m c'<m c)\/(∃ q,Er T body (ρ++vs c)=some q/\q.1≠.cont/\Q q)):∃ q,Er T (.loop init body) ρ=some q/\Q q :=
 Uae (T:=T) (body:=body) (ρ:=ρ) m inv vs Q (fun c hc=>by
  rcases h c hc with ⟨c',h2,h3,h4⟩|⟨q,h2,h3,h4⟩
  ·exact⟨_,h2,.inl ⟨rfl,c',h3,h4,rfl⟩⟩
  ·exact⟨_,h2,.inr ⟨h3,h4⟩⟩) (m c0) c0 (Sb7 _) hi init h0
theorem Qbe:(∀ {a b:Int},(aN.bin .mul).run [u64 a,.int .u64 b]=some [u64 (IntKind.u64.wrap (a*b))])/\(∀ {a b:Int},(aN.bin .add).run [u64 a,u64 b]=some [u64 (IntKind.u64.wrap (a+b))]) /\
  (∀ {a b:Int},(aN.bin .add).run [u64 a,.int .u64 b]=some [u64 (IntKind.u64.wrap (a+b))])/\(∀ {a:Int},(aN.bin .shr).run [u64 a,.int .u64 40]=some [u64 (a.fdiv (2 ^ 40))]) /\
  (∀ {a:Int},(aN.bin .and).run [u64 a,.int .u64 255]=some [u64 (IntKind.u64.wrap (BitVec.ofInt 64 a &&& BitVec.ofInt 64 255).toNat)])/\(∀ {a:Int},(aN.conv .u64).run [i64 a]=some [u64 (IntKind.u64.wrap a)]) /\
  (∀ {a:Int},(aN.conv .i64).run [u64 (IntKind.u64.wrap (BitVec.ofInt 64 a &&& BitVec.ofInt 64 255).toNat)]=some [i64 (Pb2 a)]):=⟨Qb4,Qb7,Obk,Qb3,Qb6,u_conv,Qb5⟩
end Go.Proofs.YtpgnlmfmlffjcaaGreat.Rf

namespace Go.Proofs.YtpgnlmfmlffjcaaGreat.Rf
set_option linter.unusedVariables false
set_option linter.unusedSimpArgs false
end Go.Proofs.YtpgnlmfmlffjcaaGreat.Rf

namespace Go.Proofs.YtpgnlmfmlffjcaaGreat.Rf
set_option linter.unusedVariables false
set_option linter.unusedSimpArgs false
theorem Nbs {α:Type}[Inhabited α]{xs ys:List α}{k:Int}(h0:0<=k)(h:k<(xs.length:Int)):atI (xs++ys) k=atI xs k:=by
 unfold atI
 rw[Sb4,Sb4,List.getElem?_append_left (by omega)]
theorem Nbr {α:Type}[Inhabited α]{xs:List α}{a:α}{n:Nat}{k:Int}(h:(xs.length:Int)<=k)(h2:k<(xs.length:Int)+n):atI (xs++Sb1 n a) k=a:=by
 unfold atI
 rw[Sb4,Tbf (by omega),List.getElem?_replicate_of_lt (by omega)]
 rfl
theorem Saa {t:aM}{rep no:Int}{r:aY}(h:aV t=true)(hi:inst t.n rep no=true){k i:Int}(hk:inst t.n k i=true):cK (Daa t rep no r) k i=if k=rep/\i=no then r else cK t k i:=by
 obtain⟨r1,r2,r3,r4⟩:=bE hi
 obtain⟨k1,k2,k3,k4⟩:=bE hk
 have hb:=bN h hi
 have hb2:=bN h hk
 have hl:=Iad (n:=t.n) (l:=atI t.rows rep) (no:=no) (by omega)
 unfold cK
 simp only[Daa]
 by_cases hkr:k=rep
 ·subst hkr
  have e:atI (dB t.rows k (dB (ext t.n (atI t.rows k) no) (no-1) r)) k=dB (ext t.n (atI t.rows k) no) (no-1) r:=iV.1 hb
  simp only[e,jU,true_and]
  by_cases hin:i=no
  ·subst hin
   rw[if_pos (by omega),if_pos rfl]
   exact iV.1 (by unfold InB;omega)
  ·rw[if_neg hin]
   rw[Jaq (by omega) (by omega) (by omega)]
   by_cases h1:i<=((atI t.rows k).length:Int)
   ·rw[if_pos (by omega),if_pos h1]
    exact Nbs (by omega) (by omega)
   ·rw[if_neg h1]
    split
    ·exact Nbr (by omega) (by omega)
    ·rfl
 ·rw[if_neg (fun hc=>hkr hc.1)]
  have e:atI (dB t.rows rep (dB (ext t.n (atI t.rows rep) no) (no-1) r)) k=atI t.rows k:=Jaq (by omega) (by omega) (fun e=>hkr e.symm)
  simp only[e]
theorem Db2 {n:Int}(h:bK n=true):rowOk n (row0 n)=true:=by
 have hn:=aT h
 rcases hn with rfl|rfl<;>decide
theorem Dbd {t:aM}{rep no:Int}{r:aY}(h:aV t=true)(hi:inst t.n rep no=true)(hr:rowOk t.n r=true):aV (Daa t rep no r)=true:=by
 obtain⟨r1,r2,r3,r4⟩:=bE hi
 have hb:=bN h hi
 have hg:=aQ h
 have hlen:=bU h
 have hl:=Iad (n:=t.n) (l:=atI t.rows rep) (no:=no) (by omega)
 obtain⟨h6,hrows⟩:=bY h (bL hb)
 simp only[aV,Daa,Sbu,Tbp,beq_iff_eq,decide_eq_true_eq,jU]
 refine⟨⟨hg,hlen⟩,fun l hl2=>?_⟩
 rcases wB hl2 with hl2|rfl
 ·obtain⟨q1,q2⟩:=bY h hl2
  exact⟨q2,by omega⟩
 ·refine⟨fun x hx=>?_,by rw[jU];omega⟩
  rcases wB hx with hx|rfl
  ·unfold ext at hx
   rcases List.mem_append.1 hx with hx|hx
   ·exact hrows x hx
   ·rw[List.eq_of_mem_replicate hx]
    exact Db2 hg
  ·exact hr
theorem tN {t:aM}(h:aV t=true):bX t.rows:=by
 have hg:=aT (aQ h)
 have hl:=bU h
 refine⟨by omega,fun l hl2=>?_⟩
 obtain⟨q1,q2⟩:=bY h hl2
 exact⟨by omega,fun r hr=>by have:=Oak (q2 r hr) (aQ h);omega⟩
def Nbm (t:aM):List (List Int)×Bool:=if aV t then (aU t.rows,true) else ([],false)
end Go.Proofs.YtpgnlmfmlffjcaaGreat.Rf

namespace Go.Proofs.YtpgnlmfmlffjcaaGreat.Rf
set_option linter.unusedVariables false
set_option linter.unusedSimpArgs false
theorem Qat {x lo hi:Int}:inR x lo hi=true↔lo<=x/\x<=hi:=by simp[inR]
def jA (cs:List oN):Nat->List Int×List lT
 |0=>([100,100,100,100],[])
 |n+1=>((iD (jA cs n).1 (atI cs (n:Int))).1,(jA cs n).2++[(iD (jA cs n).1 (atI cs (n:Int))).2])
theorem Aa6 (cs:List oN):∀ n,(jA cs n).2.length=n/\(jA cs n).1.length=4
 |0=>⟨rfl,rfl⟩
 | n + 1 => by
  obtain⟨h1,h2⟩:=Aa6 cs n
  simp only[jA,Sby,Sbw,Sbx,Pai]
  omega
theorem Cai {cs:List oN}(h:∀ c∈cs,kX c=true):∀ n,n<=cs.length->((jA cs n).1.length:Int)=4/\∀ x∈(jA cs n).1,0<=x/\x<=100+1000*n
 | 0, _ => by
  refine⟨rfl,?_⟩
  simp only[jA]
  decide
 | n + 1, hn => by
  obtain⟨h1,h2⟩:=Cai h n (by omega)
  have:=Cbz (h _ (at_mem (xs:=cs) (i:=n) (by omega))) h1 h2
  refine⟨by simp only[jA,Pai];exact h1,fun x hx=>?_⟩
  have:=this x hx
  omega
end Go.Proofs.YtpgnlmfmlffjcaaGreat.Rf

namespace Go.Proofs.YtpgnlmfmlffjcaaGreat.Rf
set_option linter.unusedVariables false
set_option linter.unusedSimpArgs false
def u8 (c:UInt8):D:=.int .u8 (c.toNat:Nat)
end Go.Proofs.YtpgnlmfmlffjcaaGreat.Rf

namespace Go.Proofs.YtpgnlmfmlffjcaaGreat.Rf
set_option linter.unusedVariables false
set_option linter.unusedSimpArgs false
end Go.Proofs.YtpgnlmfmlffjcaaGreat.Rf

namespace Go.Proofs.YtpgnlmfmlffjcaaGreat.Rf
set_option linter.unusedVariables false
set_option linter.unusedSimpArgs false
end Go.Proofs.YtpgnlmfmlffjcaaGreat.Rf

namespace Go.Proofs.YtpgnlmfmlffjcaaGreat.Rf
set_option linter.unusedVariables false
set_option linter.unusedSimpArgs false
end Go.Proofs.YtpgnlmfmlffjcaaGreat.Rf

namespace Go.Proofs.YtpgnlmfmlffjcaaGreat.Rf
set_option linter.unusedVariables false
set_option linter.unusedSimpArgs false
end Go.Proofs.YtpgnlmfmlffjcaaGreat.Rf

namespace Go.Proofs.YtpgnlmfmlffjcaaGreat.Rf
set_option linter.unusedVariables false
set_option linter.unusedSimpArgs false
end Go.Proofs.YtpgnlmfmlffjcaaGreat.Rf

namespace Go.Proofs.YtpgnlmfmlffjcaaGreat.Rf
set_option linter.unusedVariables false
set_option linter.unusedSimpArgs false
end Go.Proofs.YtpgnlmfmlffjcaaGreat.Rf

namespace Go.Proofs.YtpgnlmfmlffjcaaGreat.Rf
set_option linter.unusedVariables false
set_option linter.unusedSimpArgs false
end Go.Proofs.YtpgnlmfmlffjcaaGreat.Rf

namespace Go.Proofs.YtpgnlmfmlffjcaaGreat.Rf
set_option linter.unusedVariables false
set_option linter.unusedSimpArgs false
end Go.Proofs.YtpgnlmfmlffjcaaGreat.Rf

namespace Go.Proofs.YtpgnlmfmlffjcaaGreat.Rf
set_option linter.unusedVariables false
set_option linter.unusedSimpArgs false
def prL (y:List Int):Int×Int:=(atI y 0,atI y 1)
def toL (p:Int×Int):List Int:=[p.1,p.2]
theorem qU {y:List Int}(h:y.length=2):toL (prL y)=y:=by
 match y,h with
 |[a,b],_=>rfl
theorem Ebb (p:Int×Int):prL (toL p)=p:=rfl
def ltL (y z:List Int):Prop:=ltQ (prL y) (prL z)=true
theorem sO {y z:List Int}:ltL y z↔atI y 0<atI z 0\/(atI y 0=atI z 0/\atI y 1<atI z 1):=Qah
def vP (l:List (List Int)):Prop:=l.Pairwise ltL
theorem Fat:∀ {xs ys:List (List Int)},vP xs->vP ys->(∀ x,x∈xs↔x∈ys)->xs=ys
 |[],[],_,_,_=>rfl
 |[],y::ys,_,_,h=>by have:=(h y).2 Tbe;cases this
 |x::xs,[],_,_,h=>by have:=(h x).1 Tbe;cases this
 | x :: xs, y :: ys, hx, hy, h => by
  unfold vP at hx hy
  rw[Vbp]at hx hy
  have e:x=y:=by
   rcases List.mem_cons.1 ((h x).1 Tbe) with h1|h1
   ·exact h1
   ·rcases List.mem_cons.1 ((h y).2 Tbe) with h2|h2
    ·exact h2.symm
    ·have h3:=sO.1 (hx.1 y h2)
     have h4:=sO.1 (hy.1 x h1)
     omega
  subst e
  congr 1
  refine Fat hx.2 hy.2 fun z=>?_
  constructor
  ·intro hz
   rcases List.mem_cons.1 ((h z).1 (Tba _ hz)) with h1|h1
   ·subst h1
    have:=sO.1 (hx.1 z hz)
    omega
   ·exact h1
  ·intro hz
   rcases List.mem_cons.1 ((h z).2 (Tba _ hz)) with h1|h1
   ·subst h1
    have:=sO.1 (hy.1 z hz)
    omega
   ·exact h1
theorem Wap {l:List (List Int)}(h2:∀ y∈l,y.length=2)(hn:l.Nodup):vP ((lC id (l.map prL)).map toL)/\∀ y,y∈(lC id (l.map prL)).map toL↔y∈l:=by
 have hp:=jZ id (l.map prL)
 have hs:=Aau id (l.map prL)
 have hnd:(l.map prL).Nodup:=by
  unfold List.Nodup
  rw[Wba]
  refine List.Pairwise.imp_of_mem (fun {a b} ha hb hab e=>hab ?_) hn
  rw[<- qU (h2 a ha),<- qU (h2 b hb),e]
 have hnd2:(lC id (l.map prL)).Nodup:=hp.nodup_iff.2 hnd
 constructor
 ·unfold vP
  rw[Wba]
  have h3:=List.pairwise_and_iff.2 ⟨hs,hnd2⟩
  refine h3.imp fun {a b} hab=>?_
  unfold ltL
  rw[Ebb,Ebb]
  have h4:ltQ b a=false:=hab.1
  cases h5:ltQ a b with
  |true=>rfl
  |false=>exact absurd (Abu h5 h4) hab.2
 ·intro y
  rw[List.mem_map]
  constructor
  ·rintro⟨p,hp1,rfl⟩
   obtain⟨z,hz,rfl⟩:=List.mem_map.1 (hp.mem_iff.1 hp1)
   rw[qU (h2 z hz)]
   exact hz
  ·intro hy
   exact⟨prL y,hp.mem_iff.2 (List.mem_map.2 ⟨y,hy,rfl⟩),qU (h2 y hy)⟩
theorem Abo (l:List (Int×Int)):rL (l.map toL)=.rows 1 (l.map fun p=>[Laf p]):=by
 simp only[rL,List.map_map]
 rfl
theorem Xa0 {l:List (List Int)}(h2:∀ y∈l,y.length=2)(hl:l.length<=1000000):Aav [rL l]=some [rL ((lC id (l.map prL)).map toL)]:=by
 have e:l=(l.map prL).map toL:=by
  rw[List.map_map]
  conv=>lhs;rw[<- List.map_id l]
  exact List.map_congr_left fun y hy=>(qU (h2 y hy)).symm
 have e1:rL l=.rows 1 ((l.map prL).map fun p=>[Laf p]):=by rw[<- Abo,<- e]
 rw[e1,Abo]
 simp only[Aav,Oat,Option.bind_some]
 rw[if_pos (by rw[Sb5];exact hl)]
def dM (n:Int)(y:List Int):Prop:=y.length=2/\inst n (atI y 0) (atI y 1)=true
def Ba4 (n:Nat):List (List Int):=(Vb5 n).flatMap fun k:Nat=>(Vb5 6).map fun i:Nat=>[(k:Int),(i:Int)+1]
theorem Ma9 {n:Nat}{y:List Int}:y∈Ba4 n↔dM n y:=by
 unfold Ba4 dM
 simp only[Vbi,Ub2,List.mem_map]
 constructor
 ·rintro⟨k,hk,i,hi,rfl⟩
  refine⟨rfl,?_⟩
  simp only[atI,inst,inR,Sbu,decide_eq_true_eq]
  simp
  omega
 ·rintro⟨h1,h2⟩
  match y,h1 with
  | [a, b], _ =>
   have h3:=bE h2
   simp only[atI]at h3
   simp at h3
   refine⟨a.toNat,by omega,(b-1).toNat,by omega,?_⟩
   rw[show ((a.toNat:Nat):Int)=a by omega,show (((b-1).toNat:Nat):Int)=b-1 by omega,show b-1+1=b by omega]
theorem Xay (n:Nat):(Ba4 n).length=6*n:=by
 unfold Ba4
 rw[List.length_flatMap]
 simp[List.map_const']
 omega
theorem Vas (n:Nat):vP (Ba4 n):=by
 unfold vP Ba4
 rw[List.pairwise_flatMap]
 refine⟨fun k hk=>?_,?_⟩
 ·rw[Wba]
  refine List.pairwise_lt_range.imp fun {a b} hab=>?_
  rw[sO]
  simp[atI]
  omega
 ·refine List.pairwise_lt_range.imp fun {a b} hab=>?_
  intro x hx y hy
  obtain⟨i,hi,rfl⟩:=List.mem_map.1 hx
  obtain⟨j,hj,rfl⟩:=List.mem_map.1 hy
  rw[sO]
  simp[atI]
  omega
theorem jH {α:Type}[DecidableEq α]:∀ {l m:List α},l.Nodup->(∀ x∈l,x∈m)->l.length<=m.length
 |[],_,_,_=>Ubo _
 | x :: l, m, hn, hs => by
  rw[List.nodup_cons]at hn
  have hx:=hs x Tbe
  have:=jH (l:=l) (m:=m.erase x) hn.2 fun y hy=>by
   have hne:y≠x:=fun e=>hn.1 (by rw[<- e];exact hy)
   exact (List.mem_erase_of_ne hne).2 (hs y (Tba _ hy))
  have h1:=List.length_erase_of_mem hx
  have h2:=Ubu hx
  simp only[Sbw]
  omega
theorem Car {n:Int}{l:List (List Int)}(hg:bK n=true)(hn:l.Nodup)(h:∀ y∈l,dM n y):l.length<=30:=by
 have h1:=aT hg
 have e:((n.toNat:Nat):Int)=n:=by omega
 have:=jH hn (m:=Ba4 n.toNat) fun y hy=>Ma9.2 (by rw[e];exact h y hy)
 rw[Xay]at this
 omega
def mO (k:Int)(m:Nat):List (List Int):=(Vb5 m).map fun i:Nat=>[k,(i:Int)+1]
def nW (deps:List Int)(m:Nat):List (List Int):=(Vb5 m).flatMap fun k:Nat=>mO k (atI deps (k:Int)).toNat
theorem Ban (k:Int)(m:Nat):mO k (m+1)=mO k m++[[k,(m:Int)+1]]:=by simp[mO,Vbb]
theorem Cas (deps:List Int)(m:Nat):nW deps (m+1)=nW deps m++mO m (atI deps (m:Int)).toNat:=by simp[nW,Vbb,Ub9]
def sH (t:aM)(x:List Int):List (List Int):=nW (cK t (atI x 0) (atI x 1)).attr.deps (cK t (atI x 0) (atI x 1)).attr.deps.length
theorem zF (k:Int)(m:Nat):(mO k m).length=m:=by simp[mO]
theorem Bao {deps:List Int}(h:∀ d∈deps,d<=6):∀ {m},m<=deps.length->(nW deps m).length<=6*m
 |0,_=>by simp[nW]
 | m + 1, hm => by
  have h1:=Bao h (m:=m) (by omega)
  have h3:=h _ (at_mem (show m<deps.length by omega))
  rw[Cas,Sby,zF]
  omega
theorem Uas {deps:List Int}{m:Nat}{y:List Int}:y∈nW deps m↔∃ k i:Nat,k<m/\(i:Int)<atI deps (k:Int)/\y=[(k:Int),(i:Int)+1]:=by
 unfold nW mO
 simp only[Vbi,Ub2,List.mem_map]
 constructor
 ·rintro⟨k,hk,i,hi,rfl⟩
  exact⟨k,i,hk,by omega,rfl⟩
 ·rintro⟨k,i,hk,hi,rfl⟩
  exact⟨k,hk,i,by omega,rfl⟩
theorem Cbi {t:aM}(ht:aV t=true){x y:List Int}(hx:dM t.n x)(hy:y∈sH t x):dM t.n y:=by
 unfold sH at hy
 obtain⟨k,i,hk,hi,rfl⟩:=Uas.1 hy
 have h1:=dQ ht hx.2
 have h2:=gT (jX ht hx.2) (aQ ht) _ (at_mem hk)
 refine⟨rfl,?_⟩
 simp only[atI,inst,inR,Sbu,decide_eq_true_eq]at h2 ⊢
 simp only[atI]at hi
 simp
 omega
theorem Laz {t:aM}(ht:aV t=true){x:List Int}(hx:dM t.n x):(sH t x).length<=30:=by
 have h1:=dQ ht hx.2
 have h2:=gT (jX ht hx.2) (aQ ht)
 have h3:=aT (aQ ht)
 have:=Bao (fun d hd=>(h2 d hd).2) (Sb7 (cK t (atI x 0) (atI x 1)).attr.deps.length)
 unfold sH
 omega
theorem Bav {t:aM}{x y:List Int}(hx:x.length=2):y∈xZ t (atI x 0) (atI x 1)↔y∈sH t x/\y≠x:=by
 unfold xZ sH
 rw[Caz,Uas]
 match x,hx with
 | [a, b], _ =>
  constructor
  ·rintro⟨k,i,h1,h2,h3,rfl⟩
   refine⟨⟨k,i,h1,h2,rfl⟩,fun e=>h3 ?_⟩
   simp only[List.cons.injEq,and_true]at e
   exact e
  ·rintro⟨⟨k,i,h1,h2,rfl⟩,hne⟩
   refine⟨k,i,h1,h2,fun e=>hne ?_,rfl⟩
   have e1:(k:Int)=a:=e.1
   have e2:(i:Int)+1=b:=e.2
   rw[e1,e2]
def pJ (t:aM)(y:List Int):Bool:=(cK t (atI y 0) (atI y 1)).state==3
inductive Kai (t:aM) (x:List Int):List Int->Prop
 |base:Kai t x x
 |step {z y:List Int} (h:Kai t x z) (hc:pJ t z=true) (hy:y∈sH t z):Kai t x y
theorem Kai.inst {t:aM}(ht:aV t=true){x y:List Int}(hx:dM t.n x)(h:Kai t x y):dM t.n y:=by
 induction h with
 |base=>exact hx
 |step _ _ hy ih=>exact Cbi ht ih hy
open Classical in
noncomputable def gQ (t:aM)(x:List Int):List (List Int):=(Ba4 t.n.toNat).filter fun y=>decide (Kai t x y/\pJ t y=false)
theorem Ean (t:aM)(x:List Int):vP (gQ t x):=by
 unfold gQ
 exact (Vas _).filter _
open Classical in
theorem Ca5 {t:aM}(ht:aV t=true){x y:List Int}(hx:dM t.n x):y∈gQ t x↔Kai t x y/\pJ t y=false:=by
 have h1:=aT (aQ ht)
 have e:((t.n.toNat:Nat):Int)=t.n:=by omega
 unfold gQ
 rw[Wbl,decide_eq_true_eq,Ma9,e]
 exact⟨fun h=>h.2,fun h=>⟨h.1.inst ht hx,h⟩⟩
theorem Eao {t:aM}(ht:aV t=true){x y:List Int}(hx:dM t.n x)(hy:y∈gQ t x):dM t.n y:=((Ca5 ht hx).1 hy).1.inst ht hx
theorem Dax {l:List (List Int)}(h:vP l):l.Nodup:=by
 unfold vP at h
 refine h.imp fun {a b} hab e=>?_
 subst e
 have:=sO.1 hab
 omega
theorem Pae {t:aM}(ht:aV t=true){x:List Int}(hx:dM t.n x):(gQ t x).length<=30:=Car (aQ ht) (Dax (Ean t x)) fun y hy=>Eao ht hx hy
structure BSt where
 met:List (List Int)
 out:List (List Int)
 wait:List (List Int)
def Hab (t:aM)(s:BSt)(y:List Int):BSt:=if s.met.any (fun z=>decide (y=z)) then s else if pJ t y then ⟨s.met++[y],s.out,s.wait++[y]⟩ else ⟨s.met++[y],s.out++[y],s.wait⟩
def Gb0 (t:aM)(s:BSt):BSt:=let r:=(sH t (atI s.wait 0)).foldl (Hab t) s;⟨r.met,r.out,r.wait.drop 1⟩
structure BPre (t:aM) (x:List Int) (s:BSt):Prop where
 base:x∈s.met
 nd:s.met.Nodup
 rch:∀ y∈s.met,Kai t x y
 out:∀ y,y∈s.out↔y∈s.met/\pJ t y=false
 ond:s.out.Nodup
 wm:∀ y∈s.wait,y∈s.met/\pJ t y=true
structure BInv (t:aM) (x:List Int) (s:BSt):Prop extends BPre t x s where
 cl:∀ z∈s.met,pJ t z=true->z∈s.wait\/∀ y∈sH t z,y∈s.met
theorem Iaq {l:List (List Int)}{y:List Int}:(l.any fun z=>decide (y=z))=true↔y∈l:=by
 rw[Vb8]
 constructor
 ·rintro⟨z,h1,h2⟩
  rw[of_decide_eq_true h2];exact h1
 ·exact fun h=>⟨y,h,by simp⟩
theorem Ras {l:List (List Int)}{y:List Int}(h:y∉l):(l.any fun z=>decide (y=z))=false:=by
 cases e:l.any fun z=>decide (y=z) with
 |false=>rfl
 |true=>exact absurd (Iaq.1 e) h
theorem Caj {l:List (List Int)}{y:List Int}(h:l.Nodup)(hy:y∉l):(l++[y]).Nodup:=by
 rw[List.nodup_append]
 refine⟨h,by simp,fun a ha b hb e=>?_⟩
 rw[List.mem_singleton.1 hb]at e
 exact hy (e▸ha)
theorem Haa {t:aM}{x:List Int}{s:BSt}(h:BPre t x s){y:List Int}(hy:Kai t x y) :
  BPre t x (Hab t s y)/\y∈(Hab t s y).met/\(∀ z∈s.met,z∈(Hab t s y).met)/\(∃ w,(Hab t s y).wait=s.wait++w)/\(∀ z∈(Hab t s y).met,pJ t z=true->z∈(Hab t s y).wait\/z∈s.met) /\
   (Hab t s y).wait.length+s.met.length<=s.wait.length+(Hab t s y).met.length:=by
 unfold Hab
 by_cases hm:y∈s.met
 ·rw[Iaq.2 hm,if_pos rfl]
  exact⟨h,hm,fun z hz=>hz,⟨[],by simp⟩,fun z hz _=>.inr hz,Sb7 _⟩
 ·rw[Ras hm]
  simp only[Sbv,if_false]
  have hmem:∀ z,z∈s.met++[y]↔z∈s.met\/z=y:=fun z=>by simp
  cases hc:pJ t y with
  | true =>
   simp only[if_true]
   refine⟨⟨Sbz _ h.base,Caj h.nd hm,fun z hz=>?_,fun z=>?_,h.ond,fun z hz=>?_⟩,by simp,fun z hz=>Sbz _ hz,⟨[y],rfl⟩,fun z hz _=>?_,by simp<;>omega⟩
   ·rcases (hmem z).1 hz with hz|rfl
    ·exact h.rch z hz
    ·exact hy
   ·rw[h.out,hmem]
    constructor
    ·exact fun ⟨h1,h2⟩=>⟨.inl h1,h2⟩
    ·rintro⟨h1|rfl,h2⟩
     ·exact⟨h1,h2⟩
     ·rw[hc]at h2;cases h2
   ·rcases List.mem_append.1 hz with hz|hz
    ·exact⟨Sbz _ (h.wm z hz).1,(h.wm z hz).2⟩
    ·rw[List.mem_singleton.1 hz]
     exact⟨by simp,hc⟩
   ·rcases (hmem z).1 hz with hz|rfl
    ·exact .inr hz
    ·exact .inl (by simp)
  | false =>
   simp only[Sbv,if_false]
   refine⟨⟨Sbz _ h.base,Caj h.nd hm,fun z hz=>?_,fun z=>?_,Caj h.ond (fun hz=>hm ((h.out y).1 hz).1),fun z hz=>?_⟩,by simp,fun z hz=>Sbz _ hz,⟨[],by simp⟩,fun z hz hcz=>?_,by simp<;>omega⟩
   ·rcases (hmem z).1 hz with hz|rfl
    ·exact h.rch z hz
    ·exact hy
   ·rw[Vbs,h.out,hmem,Sb9]
    constructor
    ·rintro (⟨h1,h2⟩|rfl)
     ·exact⟨.inl h1,h2⟩
     ·exact⟨.inr rfl,hc⟩
    ·rintro⟨h1|rfl,h2⟩
     ·exact .inl ⟨h1,h2⟩
     ·exact .inr rfl
   ·exact⟨Sbz _ (h.wm z hz).1,(h.wm z hz).2⟩
   ·rcases (hmem z).1 hz with hz|rfl
    ·exact .inr hz
    ·rw[hc]at hcz;cases hcz
theorem Ba2 {t:aM}{x:List Int}:∀ {ys:List (List Int)} {s:BSt},BPre t x s->(∀ y∈ys,Kai t x y) ->
  BPre t x (ys.foldl (Hab t) s)/\(∀ y∈ys,y∈(ys.foldl (Hab t) s).met)/\(∀ z∈s.met,z∈(ys.foldl (Hab t) s).met)/\(∃ w,(ys.foldl (Hab t) s).wait=s.wait++w)/\(∀ z∈(ys.foldl (Hab t) s).met,pJ t z=true->z∈(ys.foldl (Hab t) s).wait\/z∈s.met) /\
   (ys.foldl (Hab t) s).wait.length+s.met.length<=s.wait.length+(ys.foldl (Hab t) s).met.length
 |[],s,h,_=>⟨h,by simp,fun z hz=>hz,⟨[],by simp⟩,fun z hz _=>.inr hz,Sb7 _⟩
 | y :: ys, s, h, hr => by
  obtain⟨h1,h2,h3,⟨w,h4⟩,h5,h6⟩:=Haa h (hr y Tbe)
  obtain⟨k1,k2,k3,⟨w',k4⟩,k5,k6⟩:=Ba2 (ys:=ys) h1 fun z hz=>hr z (Tba _ hz)
  rw[Vbg]
  refine⟨k1,fun z hz=>?_,fun z hz=>k3 z (h3 z hz),⟨w++w',by rw[k4,h4,Sb3]⟩,fun z hz hc=>?_,by omega⟩
  ·rcases List.mem_cons.1 hz with rfl|hz
   ·exact k3 _ h2
   ·exact k2 z hz
  ·rcases k5 z hz hc with h7|h7
   ·exact .inl h7
   ·rcases h5 z h7 hc with h8|h8
    ·exact .inl (by rw[k4];exact Sbz _ h8)
    ·exact .inr h8
theorem BInv.step {t:aM}{x:List Int}{s:BSt}(h:BInv t x s)(hw:s.wait≠[]):BInv t x (Gb0 t s)/\(Gb0 t s).wait.length+s.met.length<s.wait.length+(Gb0 t s).met.length:=by
 obtain⟨z,w,e⟩:∃ z w,s.wait=z::w:=by
  cases hs:s.wait with
  |nil=>exact absurd hs hw
  |cons z w=>exact⟨z,w,rfl⟩
 have hz0:atI s.wait 0=z:=by rw[e];rfl
 obtain⟨hzm,hzc⟩:=h.wm z (by rw[e];exact Tbe)
 have hr:∀ y∈sH t z,Kai t x y:=fun y hy=>.step (h.rch z hzm) hzc hy
 obtain⟨k1,k2,k3,⟨w',k4⟩,k5,k6⟩:=Ba2 (ys:=sH t z) h.toBPre hr
 have k4':((sH t z).foldl (Hab t) s).wait.drop 1=w++w':=by rw[k4,e];rfl
 unfold Gb0
 rw[hz0]
 dsimp only
 refine⟨⟨⟨k1.base,k1.nd,k1.rch,k1.out,k1.ond,fun y hy=>k1.wm y (Vbe hy)⟩,fun y hy hc=>?_⟩,?_⟩
 ·dsimp only at hy ⊢
  by_cases hyz:y=z
  ·subst hyz
   exact .inr k2
  ·rw[k4']
   rcases k5 y hy hc with h1|h1
   ·rw[k4,e]at h1
    rcases List.mem_append.1 h1 with h1|h1
    ·rcases List.mem_cons.1 h1 with h1|h1
     ·exact absurd h1 hyz
     ·exact .inl (Sbz _ h1)
    ·exact .inl (Sb2 _ h1)
   ·rcases h.cl y h1 hc with h2|h2
    ·rw[e]at h2
     rcases List.mem_cons.1 h2 with h2|h2
     ·exact absurd h2 hyz
     ·exact .inl (Sbz _ h2)
    ·exact .inr fun u hu=>k3 u (h2 u hu)
 ·have:0<((sH t z).foldl (Hab t) s).wait.length:=by rw[k4,e];simp<;>omega
  rw[Tbx]
  omega
theorem BInv.start {t:aM}{x:List Int}(hc:pJ t x=true):BInv t x ⟨[x],[],[x]⟩:=by
 refine⟨⟨by simp,by simp,fun y hy=>?_,fun y=>?_,by simp,fun y hy=>?_⟩,fun z hz _=>.inl hz⟩
 ·rw[List.mem_singleton.1 hy];exact .base
 ·constructor
  ·intro hy;cases hy
  ·rintro⟨h1,h2⟩
   rw[List.mem_singleton.1 h1,hc]at h2
   cases h2
 ·rw[List.mem_singleton.1 hy]
  exact⟨by simp,hc⟩
theorem BInv.done {t:aM}(ht:aV t=true){x:List Int}(hx:dM t.n x){s:BSt}(h:BInv t x s)(hw:s.wait=[]):(lC id (s.out.map prL)).map toL=gQ t x:=by
 have hall:∀ y,Kai t x y->y∈s.met:=by
  intro y hy
  induction hy with
  |base=>exact h.base
  | step _ hc hy ih =>
   rcases h.cl _ ih hc with h1|h1
   ·rw[hw]at h1;cases h1
   ·exact h1 _ hy
 obtain⟨h1,h2⟩:=Wap (l:=s.out) (fun y hy=>((h.rch y ((h.out y).1 hy).1).inst ht hx).1) h.ond
 refine Fat h1 (Ean t x) fun y=>?_
 rw[h2,h.out,Ca5 ht hx]
 exact⟨fun ⟨h3,h4⟩=>⟨h.rch y h3,h4⟩,fun ⟨h3,h4⟩=>⟨hall y h3,h4⟩⟩
theorem BPre.len {t:aM}(ht:aV t=true){x:List Int}(hx:dM t.n x){s:BSt}(h:BPre t x s):s.met.length<=30/\s.out.length<=30:=by
 have h1:=Car (aQ ht) h.nd fun y hy=>(h.rch y hy).inst ht hx
 have h2:=Car (aQ ht) h.ond fun y hy=>(h.rch y ((h.out y).1 hy).1).inst ht hx
 exact⟨h1,h2⟩
def gtL (y x:List Int):Bool:=decide (atI x 0<atI y 0)||((atI y 0==atI x 0)&&decide (atI x 1<atI y 1))
def jP (l:List (List Int))(x:List Int):Nat->Nat
 |0=>0
 |k+1=>if gtL (atI l (k:Int)) x then jP l x k else k+1
def Eb5 (l:List (List Int))(x:List Int):List (List Int):=l.take (jP l x l.length)++[x]++l.drop (jP l x l.length)
theorem Lax (l:List (List Int))(x:List Int):∀ m,jP l x m<=m
 |0=>Sb7 _
 | m + 1 => by
  unfold jP
  split
  ·exact Nat.le_succ_of_le (Lax l x m)
  ·exact Sb7 _
theorem Eb7 {l:List (List Int)}{x:List Int}:∀ {m j:Nat},jP l x m<=j->j<m->gtL (atI l (j:Int)) x=true
 |0,j,_,h=>by omega
 | m + 1, j, h, hj => by
  unfold jP at h
  split at h
  ·rename_i hg
   rcases Tbi j m with h1|h1
   ·exact Eb7 h h1
   ·obtain rfl:j=m:=by omega
    exact hg
  ·omega
theorem Eb6 {l:List (List Int)}{x:List Int}:∀ {m:Nat},0<jP l x m->gtL (atI l ((jP l x m-1:Nat):Int)) x=false
 |0,h=>by simp[jP]at h
 | m + 1, h => by
  unfold jP at h ⊢
  split
  ·rename_i hg
   rw[if_pos hg]at h
   exact Eb6 h
  ·rename_i hg
   simpa using hg
theorem Fbd {y x:List Int}:gtL y x=true↔ltL x y:=by
 rw[sO]
 unfold gtL
 simp only[Uba,Sbu,decide_eq_true_eq,beq_iff_eq]
 omega
theorem Qas {l:List (List Int)}{x y:List Int}:y∈Eb5 l x↔y∈l\/y=x:=by
 unfold Eb5
 have e:∀ k,y∈l.take k++[x]++l.drop k↔y∈l\/y=x:=by
  intro k
  have h:=Ubx k l
  rw[Sb3,Vbs,Vbs,Sb9]
  constructor
  ·rintro (h1|h1|h1)
   ·exact .inl (List.mem_of_mem_take h1)
   ·exact .inr h1
   ·exact .inl (Vbe h1)
  ·rintro (h1|h1)
   ·rw[<- h]at h1
    rcases List.mem_append.1 h1 with h1|h1
    ·exact .inl h1
    ·exact .inr (.inr h1)
   ·exact .inr (.inl h1)
 exact e _
theorem Eb4 {l:List (List Int)}{x:List Int}(h:vP l)(h2:∀ y∈l,y.length=2)(hx2:x.length=2)(hx:x∉l):vP (Eb5 l x):=by
 have hk:=Lax l x l.length
 have hsp:=Ubx (jP l x l.length) l
 have hlo:∀ y∈l.take (jP l x l.length),ltL y x:=by
  intro y hy
  obtain⟨j,hj⟩:=List.mem_iff_getElem?.1 hy
  have hjl:j<jP l x l.length:=by
   have:=(List.getElem?_eq_some_iff.1 hj).1
   rw[Tbc]at this
   omega
  rw[List.getElem?_take,if_pos hjl]at hj
  have hlast:=Eb6 (l:=l) (x:=x) (m:=l.length) (by omega)
  have hll:jP l x l.length-1<l.length:=by omega
  rw[bC hll]at hlast
  have hnl:¬ ltL x l[jP l x l.length-1]:=fun e=>by rw[<- Fbd,hlast]at e;cases e
  have hne:l[jP l x l.length-1]≠x:=fun e=>hx (e▸Ub4 hll)
  have hlt2:ltL l[jP l x l.length-1] x:=by
   rw[sO]at hnl ⊢
   have hl2:=h2 _ (Ub4 hll)
   generalize l[jP l x l.length-1]=z at hnl hne hl2 ⊢
   have hz:¬ (atI z 0=atI x 0/\atI z 1=atI x 1):=by
    rintro⟨e1,e2⟩
    match z,x,hl2,hx2 with
    | [a, b], [c, d], _, _ =>
     have e1':a=c:=e1
     have e2':b=d:=e2
     exact hne (by rw[e1',e2'])
   omega
  rcases Tbi j (jP l x l.length-1) with h1|h1
  ·unfold vP at h
   rw[List.pairwise_iff_getElem]at h
   have hjl2:j<l.length:=by omega
   have h3:=h j (jP l x l.length-1) hjl2 hll h1
   rw[(List.getElem?_eq_some_iff.1 hj).2]at h3
   rw[sO]at h3 hlt2 ⊢
   omega
  ·have e:j=jP l x l.length-1:=by omega
   subst e
   rw[(List.getElem?_eq_some_iff.1 hj).2]at hlt2
   exact hlt2
 have hhi:∀ y∈l.drop (jP l x l.length),ltL x y:=by
  intro y hy
  obtain⟨j,hj⟩:=List.mem_iff_getElem?.1 hy
  rw[List.getElem?_drop]at hj
  have hjl:=(List.getElem?_eq_some_iff.1 hj).1
  have:=Eb7 (l:=l) (x:=x) (m:=l.length) (j:=jP l x l.length+j) (by omega) hjl
  rw[bC hjl,(List.getElem?_eq_some_iff.1 hj).2]at this
  exact Fbd.1 this
 unfold Eb5 vP
 unfold vP at h
 rw[<- hsp,Wbm]at h
 rw[Sb3,Wbm]
 refine⟨h.1,?_,fun a ha b hb=>?_⟩
 ·rw[Vbl,Vbp]
  exact⟨hhi,h.2.1⟩
 ·rcases List.mem_append.1 hb with hb|hb
  ·rw[List.mem_singleton.1 hb]
   exact hlo a ha
  ·exact h.2.2 a ha b hb
structure SSt where
 met:List (List Int)
 out:List (List Int)
def Ra4 (t:aM)(s:SSt)(y:List Int):SSt:=if s.met.any (fun z=>decide (y=z))||s.out.any (fun z=>decide (y=z)) then s else if pJ t y then ⟨s.met++[y],s.out⟩ else ⟨s.met,Eb5 s.out y⟩
def Ib4 (t:aM)(s:SSt)(i:Nat):SSt:=(xZ t (atI (atI s.met (i:Int)) 0) (atI (atI s.met (i:Int)) 1)).foldl (Ra4 t) s
structure SPre (t:aM) (x:List Int) (s:SSt):Prop where
 base:x∈s.met
 nd:s.met.Nodup
 rch:∀ y∈s.met,Kai t x y/\pJ t y=true
 och:∀ y∈s.out,Kai t x y/\pJ t y=false
 srt:vP s.out
structure Rau (t:aM) (x:List Int) (i:Nat) (s:SSt):Prop extends SPre t x s where
 le:i<=s.met.length
 cl:∀ j,j<i->∀ y∈sH t (atI s.met (j:Int)),y∈s.met\/y∈s.out
theorem Far {t:aM}(ht:aV t=true){x:List Int}(hx:dM t.n x){s:SSt}(h:SPre t x s){y:List Int}(hy:Kai t x y) :
  SPre t x (Ra4 t s y)/\(y∈(Ra4 t s y).met\/y∈(Ra4 t s y).out)/\(∃ m,(Ra4 t s y).met=s.met++m)/\(∀ z∈s.out,z∈(Ra4 t s y).out):=by
 unfold Ra4
 by_cases hm:y∈s.met
 ·rw[Iaq.2 hm,Wbc,if_pos rfl]
  exact⟨h,.inl hm,⟨[],by simp⟩,fun z hz=>hz⟩
 ·by_cases ho:y∈s.out
  ·rw[Iaq.2 ho,Vbk,if_pos rfl]
   exact⟨h,.inr ho,⟨[],by simp⟩,fun z hz=>hz⟩
  ·rw[Ras hm,Ras ho]
   simp only[Ubz,Sbv,if_false]
   cases hc:pJ t y with
   | true =>
    simp only[if_true]
    refine⟨⟨Sbz _ h.base,Caj h.nd hm,fun z hz=>?_,h.och,h.srt⟩,.inl (by simp),⟨[y],rfl⟩,fun z hz=>hz⟩
    rcases List.mem_append.1 hz with hz|hz
    ·exact h.rch z hz
    ·rw[List.mem_singleton.1 hz];exact⟨hy,hc⟩
   | false =>
    simp only[Sbv,if_false]
    refine⟨⟨h.base,h.nd,h.rch,fun z hz=>?_,Eb4 h.srt (fun z hz=>((h.och z hz).1.inst ht hx).1) (hy.inst ht hx).1 ho⟩,.inr (Qas.2 (.inr rfl)),⟨[],by simp⟩,fun z hz=>Qas.2 (.inl hz)⟩
    rcases Qas.1 hz with hz|rfl
    ·exact h.och z hz
    ·exact⟨hy,hc⟩
theorem Sau {t:aM}(ht:aV t=true){x:List Int}(hx:dM t.n x):∀ {ys:List (List Int)} {s:SSt},SPre t x s->(∀ y∈ys,Kai t x y) ->
  SPre t x (ys.foldl (Ra4 t) s)/\(∀ y∈ys,y∈(ys.foldl (Ra4 t) s).met\/y∈(ys.foldl (Ra4 t) s).out)/\(∃ m,(ys.foldl (Ra4 t) s).met=s.met++m)/\(∀ z∈s.out,z∈(ys.foldl (Ra4 t) s).out)
 |[],s,h,_=>⟨h,by simp,⟨[],by simp⟩,fun z hz=>hz⟩
 | y :: ys, s, h, hr => by
  obtain⟨h1,h2,⟨m,h3⟩,h4⟩:=Far ht hx h (hr y Tbe)
  obtain⟨k1,k2,⟨m',k3⟩,k4⟩:=Sau ht hx (ys:=ys) h1 fun z hz=>hr z (Tba _ hz)
  rw[Vbg]
  refine⟨k1,fun z hz=>?_,⟨m++m',by rw[k3,h3,Sb3]⟩,fun z hz=>k4 z (h4 z hz)⟩
  rcases List.mem_cons.1 hz with rfl|hz
  ·rcases h2 with h2|h2
   ·exact .inl (by rw[k3];exact Sbz _ h2)
   ·exact .inr (k4 _ h2)
  ·exact k2 z hz
theorem Ibr {α:Type}[Inhabited α]{l m:List α}{j:Nat}(h:j<l.length):atI (l++m) (j:Int)=atI l (j:Int):=by
 rw[bC h,bC (by rw[Sby];omega),List.getElem_append_left h]
theorem Rau.step {t:aM}(ht:aV t=true){x:List Int}(hx:dM t.n x){i:Nat}{s:SSt}(h:Rau t x i s)(hi:i<s.met.length):Rau t x (i+1) (Ib4 t s i):=by
 have hzm:=at_mem hi
 obtain⟨hzr,hzc⟩:=h.rch _ hzm
 have hz2:=(hzr.inst ht hx).1
 unfold Ib4
 obtain⟨k1,k2,⟨m,k3⟩,k4⟩:=Sau ht hx (ys:=xZ t (atI (atI s.met (i:Int)) 0) (atI (atI s.met (i:Int)) 1)) h.toSPre fun y hy=>.step hzr hzc ((Bav hz2).1 hy).1
 refine⟨k1,by rw[k3,Sby];omega,fun j hj y hy=>?_⟩
 have hjl:j<s.met.length:=by omega
 rw[k3,Ibr hjl]at hy
 rcases Tbi j i with hji|hji
 ·rcases h.cl j hji y hy with h1|h1
  ·exact .inl (by rw[k3];exact Sbz _ h1)
  ·exact .inr (k4 y h1)
 ·obtain rfl:j=i:=by omega
  by_cases e:y=atI s.met (j:Int)
  ·exact .inl (by rw[k3,e];exact Sbz _ hzm)
  ·exact k2 y ((Bav hz2).2 ⟨hy,e⟩)
theorem Rau.start {t:aM}{x:List Int}(hc:pJ t x=true):Rau t x 0 ⟨[x],[]⟩:=by
 have h1:∀ y∈[x],Kai t x y/\pJ t y=true:=fun y hy=>by rw[List.mem_singleton.1 hy];exact⟨.base,hc⟩
 exact⟨⟨by simp,by simp,h1,fun y hy=>absurd hy (List.not_mem_nil),List.Pairwise.nil⟩,Ubo _,fun j hj=>absurd hj (Nat.not_lt_zero _)⟩
theorem Rau.done {t:aM}(ht:aV t=true){x:List Int}(hx:dM t.n x){s:SSt}(h:Rau t x s.met.length s):s.out=gQ t x:=by
 have hall:∀ y,Kai t x y->y∈s.met\/y∈s.out:=by
  intro y hy
  induction hy with
  |base=>exact .inl h.base
  | step _ hc hy ih =>
   rcases ih with h1|h1
   ·obtain⟨j,hj,e⟩:=List.mem_iff_getElem.1 h1
    refine h.cl j hj _ ?_
    rw[bC hj,e]
    exact hy
   ·rw[(h.och _ h1).2]at hc;cases hc
 refine Fat h.srt (Ean t x) fun y=>?_
 rw[Ca5 ht hx]
 refine⟨h.och y,fun ⟨h1,h2⟩=>?_⟩
 rcases hall y h1 with h3|h3
 ·rw[(h.rch y h3).2]at h2;cases h2
 ·exact h3
theorem SPre.len {t:aM}(ht:aV t=true){x:List Int}(hx:dM t.n x){s:SSt}(h:SPre t x s):s.met.length<=30/\s.out.length<=30:=by
 have h1:=Car (aQ ht) h.nd fun y hy=>(h.rch y hy).1.inst ht hx
 have h2:=Car (aQ ht) (Dax h.srt) fun y hy=>(h.och y hy).1.inst ht hx
 exact⟨h1,h2⟩
noncomputable def iM (t:aM)(x:List Int):Bool:=decide ((0:Int)<((gQ t x).length:Nat))
noncomputable def aF (t:aM):List (List Int):=(aU t.rows).filter fun x=>!iM t x
noncomputable def uP (t:aM):List (List Int)×Bool:=if aV t then (aF t,true) else ([],false)
theorem nZ {t:aM}(ht:aV t=true){x:List Int}(h:x∈aU t.rows):dM t.n x/\pJ t x=true:=by
 obtain⟨-,-,h1,h2,h3⟩:=eQ ht h
 exact⟨⟨h1,h2⟩,by simp[pJ,h3]⟩
end Go.Proofs.YtpgnlmfmlffjcaaGreat.Rf

namespace Go.Proofs.YtpgnlmfmlffjcaaGreat.Rf
set_option linter.unusedVariables false
set_option linter.unusedSimpArgs false
def iY (kept:List (List Int))(J:List (List D))(rest:List (List Int)):D:=.rows 1 (kept.map Enc.enc++J++rest.map Enc.enc)
theorem Iai (l:List (List Int)){i:Nat}(h:i<=l.length):rL l=iY (l.take i) [] (l.drop i):=by
 unfold iY rL
 rw[Tbb,<- Tby,Ubx]
 rfl
theorem yA (kept:List (List Int))(J:List (List D))(y:List Int)(rest:List (List Int)):iY kept J (y::rest)=iY kept (J++[Enc.enc y]) rest:=by
 unfold iY
 simp[Sb3]
theorem tY {kept:List (List Int)}{J:List (List D)}{rest:List (List Int)}{n:Int}(h:(kept.length:Int)+J.length+rest.length=n):aN.len.run [iY kept J rest]=some [i64 n]:=by
 subst h
 unfold iY
 simp only[aN.run,Sby,Sb5]
 rfl
theorem tZ {kept:List (List Int)}{J:List (List D)}{rest:List (List Int)}{k:Int}(h0:0<=k)(h:k<(kept.length:Int)+J.length+rest.length):aN.inb.run [iY kept J rest,i64 k]=some []:=by
 unfold iY
 show (if _ then _ else _)=_
 rw[if_pos]
 simp only[Sby,Sb5]
 omega
theorem Fby {kept:List (List Int)}{J:List (List D)}{y:List Int}{rest:List (List Int)}{k:Int}(h:(kept.length:Int)+J.length=k):(kept.map Enc.enc++J++(y::rest).map Enc.enc)[k.toNat]?=some [rL y]:=by
 rw[Tbf (by simp;omega)]
 simp only[Sby,Sb5]
 rw[show k.toNat-(kept.length+J.length)=0 by omega]
 rfl
theorem Ca0 {kept:List (List Int)}{J:List (List D)}{y:List Int}{rest:List (List Int)}{k:Int}(h:(kept.length:Int)+J.length=k):(aN.row 1 0 [false]).run [iY kept J (y::rest),i64 k]=some [rL y]:=by
 unfold iY
 show (if _ then _ else _)=_
 rw[if_pos ⟨rfl,by omega⟩,Fby h]
 rfl
theorem yB {kept:List (List Int)}{J:List (List D)}{y:List Int}{rest:List (List Int)}{k:Int}(h:(kept.length:Int)+J.length=k):(aN.set 1 0 1).run [iY kept J (y::rest),i64 k,.hole]=some [iY kept (J++[[.hole]]) rest]:=by
 unfold iY
 show (if _ then _ else _)=_
 rw[if_pos ⟨rfl,by omega⟩,Fby h]
 show some _=some _
 congr 2
 rw[List.set_append_right _ _ (by simp;omega)]
 simp only[Sby,Sb5]
 rw[show k.toNat-(kept.length+J.length)=0 by omega]
 simp
theorem Rab {kept:List (List Int)}{j:List D}{J:List (List D)}{y:List Int}{rest:List (List Int)}{k:Int}(h:(kept.length:Int)=k)(hj:j.length=1):(aN.set 1 0 1).run [iY kept (j::J) rest,i64 k,rL y]=some [iY (kept++[y]) J rest]:=by
 unfold iY
 have e:(kept.map Enc.enc++(j::J)++rest.map Enc.enc)[k.toNat]?=some j:=by
  rw[Sb3,Tbf (by simp;omega)]
  simp only[Sb5]
  rw[show k.toNat-kept.length=0 by omega]
  rfl
 show (if _ then _ else _)=_
 rw[if_pos ⟨rfl,by omega⟩,e]
 dsimp only
 rw[if_pos ⟨by rw[hj];exact Sb7 _,rfl⟩]
 have e2:j.take 0++[rL y]++j.drop (0+1)=[rL y]:=by
  match j,hj with
  |[d],_=>rfl
 rw[e2,Sb3,List.set_append_right _ _ (by simp;omega)]
 simp only[Sb5]
 rw[show k.toNat-kept.length=0 by omega]
 simp[Enc.enc]
theorem Raa {kept:List (List Int)}{J:List (List D)}{n k:Int}(h:(kept.length:Int)=k)(hn:(kept.length:Int)+J.length=n):∃ d,(aN.sub 1 false).run [iY kept J [],i64 k,i64 n]=some [d]:=by
 unfold iY
 exact⟨_,if_pos ⟨rfl,by simp,by omega,by omega,by simp;omega⟩⟩
theorem Rad {kept:List (List Int)}{J:List (List D)}{k:Int}(h:(kept.length:Int)=k):(aN.clr 1).run [iY kept J [],i64 k]=some [iY kept (J.map fun r=>r.map fun _=>.hole) []]:=by
 unfold iY
 show (if _ then _ else _)=_
 rw[if_pos ⟨rfl,by omega⟩]
 have e:k.toNat=(kept.map (Enc.enc (α:=List Int))).length:=by simp;omega
 rw[e]
 simp
theorem Rac {kept:List (List Int)}{J:List (List D)}{k:Int}(h:(kept.length:Int)=k):(aN.sub 1 false).run [iY kept J [],i64 0,i64 k]=some [rL kept]:=by
 unfold iY
 show (if _ then _ else _)=_
 rw[if_pos ⟨rfl,by simp,by omega,by omega,by simp;omega⟩]
 have e:k.toNat=(kept.map (Enc.enc (α:=List Int))).length:=by simp;omega
 rw[e]
 simp[rL]
 rfl
theorem nJ {t:aM}(ht:aV t=true):(aU t.rows).length<=30:=Car (aQ ht) (Iam ..) fun _ hy=>(nZ ht hy).1
end Go.Proofs.YtpgnlmfmlffjcaaGreat.Rf

namespace Go.Proofs.YtpgnlmfmlffjcaaGreat.Rf
set_option linter.unusedVariables false
set_option linter.unusedSimpArgs false
def GOk (G:List (List Int)):Prop:=∀ r∈G,∀ x∈r,InB G x
inductive Rch (G:List (List Int)) (a:Int):Int->Prop
 |refl:Rch G a a
 |step {b c:Int}:Rch G a b->c∈atI G b->Rch G a c
theorem GOk.out {G:List (List Int)}(hg:GOk G){b c:Int}(hb:InB G b)(hc:c∈atI G b):InB G c:=hg _ (bL hb) c hc
theorem Rch.inb {G:List (List Int)}(hg:GOk G){a b:Int}(ha:InB G a)(h:Rch G a b):InB G b:=by
 induction h with
 |refl=>exact ha
 |step _ hc ih=>exact hg.out ih hc
theorem Rch.trans {G:List (List Int)}{a b c:Int}(h:Rch G a b)(h2:Rch G b c):Rch G a c:=by
 induction h2 with
 |refl=>exact h
 |step _ hc ih=>exact .step ih hc
def nums (n:Nat):List Int:=(Vb5 n).map fun k:Nat=>(k:Int)
theorem mI (n:Nat):nums (n+1)=nums n++[(n:Int)]:=by simp[nums,Vbb]
theorem dA (n:Nat):(nums n).length=n:=by simp[nums]
theorem zC {n:Nat}{x:Int}:x∈nums n↔0<=x/\x<n:=by
 unfold nums
 rw[List.mem_map]
 constructor
 ·rintro⟨k,hk,rfl⟩
  rw[Ub2]at hk
  omega
 ·rintro⟨h1,h2⟩
  exact⟨x.toNat,List.mem_range.2 (by omega),by omega⟩
theorem Da5 (n:Nat):nM (nums n):=by
 unfold nums nM
 rw[Wba]
 exact List.pairwise_lt_range.imp fun {a b} h=>by omega
theorem vV {l:List Int}(h:nM l):l.Nodup:=by
 unfold nM at h
 exact h.imp fun {a b} hab e=>by omega
open Classical in
noncomputable def tO (G:List (List Int))(a j:Int):Bool:=decide (Rch G a j)
theorem Ja7 {G:List (List Int)}{a j:Int}:tO G a j=true↔Rch G a j:=by
 classical
 unfold tO
 exact decide_eq_true_iff
noncomputable def fK (G:List (List Int))(a:Int):List Int:=(nums G.length).filter (tO G a)
theorem Da1 (G:List (List Int))(a:Int):nM (fK G a):=by
 unfold fK nM
 exact List.Pairwise.filter _ (Da5 _)
theorem vX {G:List (List Int)}(hg:GOk G){a j:Int}(ha:InB G a):j∈fK G a↔Rch G a j:=by
 unfold fK
 rw[Wbl,Ja7,zC]
 exact⟨fun h=>h.2,fun h=>⟨h.inb hg ha,h⟩⟩
theorem jV (G:List (List Int))(a:Int):(fK G a).length<=G.length:=by
 have:=Ubb (tO G a) (nums G.length)
 rw[dA]at this
 exact this
theorem yX {G:List (List Int)}{a j:Int}(h:j∈fK G a):InB G j:=by
 unfold fK at h
 exact zC.1 (List.mem_filter.1 h).1
structure GSt where
 marks:List Bool
 todo:List Int
def GSt.left (s:GSt):Nat:=s.todo.length+s.marks.countP fun b=>!b
def gI (s:GSt)(c:Int):GSt:=if atI s.marks c then s else ⟨dB s.marks c true,s.todo++[c]⟩
def gO (G:List (List Int))(s:GSt):GSt:=⟨((atI G (atI s.todo 0)).foldl gI s).marks,((atI G (atI s.todo 0)).foldl gI s).todo.drop 1⟩
structure GPre (G:List (List Int)) (a:Int) (s:GSt):Prop where
 len:s.marks.length=G.length
 rch:∀ j,InB G j->atI s.marks j=true->Rch G a j
 sta:InB G a
 st:atI s.marks a=true
 tm:∀ x∈s.todo,InB G x/\atI s.marks x=true
 cnt:s.left<=G.length
structure GInv (G:List (List Int)) (a:Int) (s:GSt):Prop extends GPre G a s where
 cl:∀ j,InB G j->atI s.marks j=true->j∉s.todo->∀ c∈atI G j,atI s.marks c=true
theorem wZ {α:Type}[Inhabited α]{xs:List α}{j k:Int}{x:α}(hj:0<=j)(hk:0<=k)(h:j≠k):atI (dB xs k x) j=atI xs j:=by
 have:k.toNat≠j.toNat:=by omega
 unfold atI dB
 rw[Sb4,Sb4,List.getElem?_set_ne this]
theorem wY {α:Type}[Inhabited α]{xs:List α}{k:Int}{x:α}(h:InB xs k):atI (dB xs k x) k=x:=iV.1 h
theorem Eaj:∀ {l:List Bool} {i:Nat},i<l.length->l.getD i default=false->(l.set i true).countP (fun b=>!b)+1=l.countP fun b=>!b
 |[],i,h,_=>by simp at h
 | b :: l, 0, _, h => by
  have hb:b=false:=h
  subst hb
  simp
 | b :: l, i + 1, h, h2 => by
  have:=Eaj (l:=l) (i:=i) (by simpa using h) h2
  simp only[List.set_cons_succ,List.countP_cons]
  omega
theorem Qa1 {G:List (List Int)}{a:Int}{s:GSt}(h:GPre G a s){c:Int}(hc:InB G c)(hr:Rch G a c) :
  GPre G a (gI s c)/\(∀ j,InB G j->atI s.marks j=true->atI (gI s c).marks j=true)/\atI (gI s c).marks c=true/\(∃ w,(gI s c).todo=s.todo++w)/\(∀ j,InB G j->atI (gI s c).marks j=true->atI s.marks j=true\/j∈(gI s c).todo)/\(gI s c).left=s.left:=by
 unfold gI
 cases hm:atI s.marks c with
 |true=>exact⟨h,fun _ _ hj=>hj,hm,⟨[],by simp⟩,fun _ _ hj=>.inl hj,rfl⟩
 | false =>
  have hcm:InB s.marks c:=by unfold InB at hc ⊢;rw[h.len];exact hc
  have hmono:∀ j,InB G j->atI s.marks j=true->atI (dB s.marks c true) j=true:=by
   intro j hj hj2
   by_cases e:j=c
   ·subst e;exact wY hcm
   ·rw[wZ hj.1 hc.1 e];exact hj2
  have hcnt:GSt.left ⟨dB s.marks c true,s.todo++[c]⟩=s.left:=by
   unfold GSt.left dB
   have:=Eaj (l:=s.marks) (i:=c.toNat) hcm.lt hm
   simp only[Sby,Sbw,Sbx]
   omega
  simp only[Sbv,if_false]
  refine⟨⟨by dsimp only;rw[jU];exact h.len,fun j hj hj2=>?_,h.sta,hmono a h.sta h.st,fun x hx=>?_,by rw[hcnt];exact h.cnt⟩,hmono,wY hcm,⟨[c],rfl⟩,fun j hj hj2=>?_,hcnt⟩
  ·by_cases e:j=c
   ·subst e;exact hr
   ·dsimp only at hj2
    rw[wZ hj.1 hc.1 e]at hj2
    exact h.rch j hj hj2
  ·rcases List.mem_append.1 hx with hx|hx
   ·exact⟨(h.tm x hx).1,hmono x (h.tm x hx).1 (h.tm x hx).2⟩
   ·rw[Sb9]at hx
    subst hx
    exact⟨hc,wY hcm⟩
  ·by_cases e:j=c
   ·subst e;exact .inr (by simp)
   ·try dsimp only at hj2
    rw[wZ hj.1 hc.1 e]at hj2
    exact .inl hj2
theorem La6 {G:List (List Int)}{a:Int}:∀ {ys:List Int} {s:GSt},GPre G a s->(∀ c∈ys,InB G c/\Rch G a c) ->
  GPre G a (ys.foldl gI s)/\(∀ j,InB G j->atI s.marks j=true->atI (ys.foldl gI s).marks j=true)/\(∀ c∈ys,atI (ys.foldl gI s).marks c=true)/\(∃ w,(ys.foldl gI s).todo=s.todo++w)/\(∀ j,InB G j->atI (ys.foldl gI s).marks j=true->atI s.marks j=true\/j∈(ys.foldl gI s).todo)/\(ys.foldl gI s).left=s.left
 |[],s,h,_=>⟨h,fun _ _ hj=>hj,fun _ hc=>(by cases hc),⟨[],by simp⟩,fun _ _ hj=>.inl hj,rfl⟩
 | y :: ys, s, h, hy => by
  obtain⟨h1,h2⟩:=hy y Tbe
  obtain⟨k1,k2,k3,⟨w1,k4⟩,k5,k6⟩:=Qa1 h h1 h2
  obtain⟨l1,l2,l3,⟨w2,l4⟩,l5,l6⟩:=La6 (ys:=ys) k1 fun c hc=>hy c (Tba _ hc)
  rw[Vbg]
  refine⟨l1,fun j hj hj2=>l2 j hj (k2 j hj hj2),fun c hc=>?_,⟨w1++w2,by rw[l4,k4,Sb3]⟩,fun j hj hj2=>?_,by rw[l6,k6]⟩
  ·rcases List.mem_cons.1 hc with hc|hc
   ·subst hc;exact l2 c h1 k3
   ·exact l3 c hc
  ·rcases l5 j hj hj2 with h3|h3
   ·rcases k5 j hj h3 with h4|h4
    ·exact .inl h4
    ·exact .inr (by rw[l4];exact Sbz _ h4)
   ·exact .inr h3
theorem GInv.step {G:List (List Int)}(hg:GOk G){a:Int}{s:GSt}(h:GInv G a s)(hw:s.todo≠[]):GInv G a (gO G s)/\(gO G s).left+1=s.left/\GPre G a ((atI G (atI s.todo 0)).foldl gI s):=by
 have hb:InB s.todo 0:=by
  have:=List.length_pos_iff.2 hw
  unfold InB;omega
 obtain⟨z1,z2⟩:=h.tm _ (bL hb)
 have zr:=h.rch _ z1 z2
 have hys:∀ c∈atI G (atI s.todo 0),InB G c/\Rch G a c:=fun c hc=>⟨hg.out z1 hc,.step zr hc⟩
 obtain⟨l1,l2,l3,⟨w,l4⟩,l5,l6⟩:=La6 h.toGPre hys
 obtain⟨t,ht⟩:∃ t,s.todo=atI s.todo 0::t:=by
  cases e:s.todo with
  |nil=>exact absurd e hw
  |cons x t=>exact⟨t,rfl⟩
 unfold gO
 generalize atI s.todo 0=z at *
 generalize (atI G z).foldl gI s=u at *
 rw[ht,Ub3]at l4
 have hleft:GSt.left ⟨u.marks,u.todo.drop 1⟩+1=s.left:=by
  rw[<- l6]
  unfold GSt.left
  rw[l4]
  simp only[List.drop_succ_cons,List.drop_zero,Sbw]
  omega
 refine⟨⟨⟨l1.len,l1.rch,l1.sta,l1.st,fun x hx=>l1.tm x (Vbe hx),by have:=h.cnt;omega⟩,fun j hj hj2 hj3 c hc=>?_⟩,hleft,l1⟩
 dsimp only at hj2 hj3 ⊢
 by_cases e:j=z
 ·subst e
  exact l3 c hc
 ·have hju:j∉u.todo:=by
   rw[l4]at hj3 ⊢
   intro hm
   rcases List.mem_cons.1 hm with h1|h1
   ·exact e h1
   ·exact hj3 (by simpa using h1)
  rcases l5 j hj hj2 with h1|h1
  ·have h2:j∉s.todo:=fun hm=>hju (by
    rw[ht]at hm
    rw[l4]
    rcases List.mem_cons.1 hm with h1|h1
    ·exact absurd h1 e
    ·exact Tba _ (Sbz _ h1))
   exact l2 c (hg.out hj hc) (h.cl j hj h1 h2 c hc)
  ·exact absurd h1 hju
theorem Xao (n:Nat):(Sb1 n false).countP (fun b=>!b)=n:=by
 induction n with
 |zero=>rfl
 |succ n ih=>rw[List.replicate_succ,List.countP_cons,ih];rfl
theorem GInv.start {G:List (List Int)}{a:Int}(ha:InB G a):GInv G a ⟨dB (Sb1 G.length false) a true,[a]⟩:=by
 have hl:InB (Sb1 G.length false) a:=by unfold InB at ha ⊢;rw[Tbq];exact ha
 have hf:(Sb1 G.length false).getD a.toNat default=false:=by
  rw[Sb4,Sb0 hl.lt,List.getElem_replicate]
  rfl
 have hoth:∀ j,InB G j->atI (dB (Sb1 G.length false) a true) j=true->j=a:=by
  intro j hj hj2
  by_cases e:j=a
  ·exact e
  ·rw[wZ hj.1 ha.1 e]at hj2
   have hlj:InB (Sb1 G.length false) j:=by unfold InB at hj ⊢;rw[Tbq];exact hj
   unfold atI at hj2
   rw[Sb4,Sb0 hlj.lt,List.getElem_replicate]at hj2
   cases hj2
 refine⟨⟨by dsimp only;rw[jU,Tbq],fun j hj hj2=>by rw[hoth j hj hj2];exact .refl,ha,wY hl,fun x hx=>?_,?_⟩,fun j hj hj2 hj3=>absurd (by rw[hoth j hj hj2];exact List.mem_singleton.2 rfl) hj3⟩
 ·rw[Sb9]at hx
  subst hx
  exact⟨ha,wY hl⟩
 ·unfold GSt.left dB
  have:=Eaj (l:=Sb1 G.length false) (i:=a.toNat) hl.lt hf
  rw[Xao]at this
  simp only[Sbw,Sbx]
  omega
theorem GInv.done {G:List (List Int)}(hg:GOk G){a:Int}{s:GSt}(h:GInv G a s)(hw:s.todo=[]){j:Int}(hj:InB G j):atI s.marks j=tO G a j:=by
 have hall:∀ b,Rch G a b->InB G b/\atI s.marks b=true:=by
  intro b hb
  induction hb with
  |refl=>exact⟨h.sta,h.st⟩
  |step _ hc ih=>exact⟨hg.out ih.1 hc,h.cl _ ih.1 ih.2 (by rw[hw];simp) _ hc⟩
 rw[Vba,Ja7]
 exact⟨h.rch j hj,fun hr=>(hall j hr).2⟩
structure HSt where
 met:List Int
 que:List Int
def hI (s:HSt)(c:Int):HSt:=if fE s.que c then s else ⟨Nag s.met c,s.que++[c]⟩
theorem qE {xs:List Int}{n:Int}:fE xs n=true↔n∈xs:=by
 unfold fE
 rw[Vb8]
 constructor
 ·rintro⟨x,hx,e⟩
  rw[<- beq_iff_eq.1 e]
  exact hx
 ·exact fun h=>⟨n,h,by simp⟩
structure HPre (G:List (List Int)) (a:Int) (s:HSt):Prop where
 rch:∀ x∈s.que,Rch G a x
 nd:s.que.Nodup
 srt:nM s.met
 eq:∀ x,x∈s.met↔x∈s.que
 sta:InB G a
 st:a∈s.que
structure Rax (G:List (List Int)) (a:Int) (i:Nat) (s:HSt):Prop extends HPre G a s where
 le:i<=s.que.length
 cl:∀ k:Nat,k<i->∀ c∈atI G (atI s.que (k:Int)),c∈s.que
theorem HPre.len {G:List (List Int)}(hg:GOk G){a:Int}{s:HSt}(h:HPre G a s):s.que.length<=G.length/\s.met.length<=G.length:=by
 have h1:∀ x∈s.que,x∈nums G.length:=fun x hx=>zC.2 ((h.rch x hx).inb hg h.sta)
 have h2:=jH h.nd h1
 have h3:=jH (vV h.srt) fun x hx=>h1 x ((h.eq x).1 hx)
 rw[dA]at h2 h3
 exact⟨h2,h3⟩
theorem Qax {G:List (List Int)}{a:Int}{s:HSt}(h:HPre G a s){c:Int}(hr:Rch G a c):HPre G a (hI s c)/\c∈(hI s c).que/\∃ w,(hI s c).que=s.que++w:=by
 unfold hI
 cases hm:fE s.que c with
 |true=>exact⟨h,qE.1 hm,[],by simp⟩
 | false =>
  have hn:c∉s.que:=fun e=>by rw[qE.2 e]at hm;cases hm
  simp only[Sbv,if_false]
  refine⟨⟨fun x hx=>?_,?_,Da3 h.srt,fun x=>?_,h.sta,Sbz _ h.st⟩,by simp,[c],rfl⟩
  ·rcases List.mem_append.1 hx with hx|hx
   ·exact h.rch x hx
   ·rw[List.mem_singleton.1 hx];exact hr
  ·exact List.nodup_append.2 ⟨h.nd,by simp,fun x hx y hy e=>hn (by rw[Sb9]at hy;rw[<- hy,<- e];exact hx)⟩
  ·rw[Kaa,h.eq]
   simp
theorem Fbc {G:List (List Int)}{a:Int}:∀ {ys:List Int} {s:HSt},HPre G a s->(∀ c∈ys,Rch G a c)->HPre G a (ys.foldl hI s)/\(∀ c∈ys,c∈(ys.foldl hI s).que)/\∃ w,(ys.foldl hI s).que=s.que++w
 |[],s,h,_=>⟨h,fun _ hc=>(by cases hc),[],by simp⟩
 | y :: ys, s, h, hy => by
  obtain⟨k1,k2,w1,k3⟩:=Qax h (hy y Tbe)
  obtain⟨l1,l2,w2,l3⟩:=Fbc (ys:=ys) k1 fun c hc=>hy c (Tba _ hc)
  rw[Vbg]
  refine⟨l1,fun c hc=>?_,w1++w2,by rw[l3,k3,Sb3]⟩
  rcases List.mem_cons.1 hc with hc|hc
  ·subst hc
   rw[l3]
   exact Sbz _ k2
  ·exact l2 c hc
theorem Rax.step {G:List (List Int)}{a:Int}{i:Nat}{s:HSt}(h:Rax G a i s)(hi:i<s.que.length):Rax G a (i+1) ((atI G (atI s.que (i:Int))).foldl hI s):=by
 have hz:=h.rch _ (at_mem hi)
 obtain⟨l1,l2,w,l3⟩:=Fbc h.toHPre (ys:=atI G (atI s.que (i:Int))) fun c hc=>.step hz hc
 generalize he:(atI G (atI s.que (i:Int))).foldl hI s=u at *
 have hat:∀ k:Nat,k<s.que.length->atI u.que (k:Int)=atI s.que (k:Int):=by
  intro k hk
  rw[l3,bC (by rw[Sby];omega),bC hk,List.getElem_append_left hk]
 refine⟨l1,by rw[l3,Sby];omega,fun k hk c hc=>?_⟩
 rw[hat k (by omega)]at hc
 rcases Tbi k i with h1|h1
 ·rw[l3]
  exact Sbz _ (h.cl k h1 c hc)
 ·obtain rfl:k=i:=by omega
  exact l2 c hc
theorem Rax.start {G:List (List Int)}{a:Int}(ha:InB G a):Rax G a 0 ⟨[a],[a]⟩ :=
 ⟨⟨fun x hx=>by rw[List.mem_singleton.1 hx];exact .refl,by simp,by simp[nM],fun x=>Iff.rfl,ha,by simp⟩,Ubo _,fun k hk=>absurd hk (Nat.not_lt_zero _)⟩
theorem Rax.done {G:List (List Int)}(hg:GOk G){a:Int}{s:HSt}(h:Rax G a s.que.length s):s.met=fK G a:=by
 refine Cae h.srt (Da1 _ _) fun x=>?_
 rw[h.eq,vX hg h.sta]
 refine⟨h.rch x,fun hr=>?_⟩
 induction hr with
 |refl=>exact h.st
 | step _ hc ih =>
  obtain⟨k,hk,e⟩:=List.mem_iff_getElem.1 ih
  exact h.cl k hk _ (by rw[bC hk,e];exact hc)
end Go.Proofs.YtpgnlmfmlffjcaaGreat.Rf

namespace Go.Proofs.YtpgnlmfmlffjcaaGreat.Rf
set_option linter.unusedVariables false
set_option linter.unusedSimpArgs false
noncomputable def uF (G:List (List Int))(a:Int):List Int:=(fK G a).filter fun j=>tO G j a
theorem rP {G:List (List Int)}(hg:GOk G){a j:Int}(ha:InB G a):j∈uF G a↔Rch G a j/\Rch G j a:=by
 unfold uF
 rw[Wbl,Ja7,vX hg ha]
theorem Eaa (G:List (List Int))(a:Int):nM (uF G a):=List.Pairwise.filter _ (Da1 G a)
theorem qF {G:List (List Int)}(hg:GOk G){a:Int}(ha:InB G a):a∈uF G a:=(rP hg ha).2 ⟨.refl,.refl⟩
theorem La2 {G:List (List Int)}(hg:GOk G){a j:Int}(ha:InB G a)(hj:j∈uF G a):uF G j=uF G a:=by
 obtain⟨h1,h2⟩:=(rP hg ha).1 hj
 refine Cae (Eaa _ _) (Eaa _ _) fun x=>?_
 rw[rP hg (h1.inb hg ha),rP hg ha]
 exact⟨fun h=>⟨h1.trans h.1,h.2.trans h2⟩,fun h=>⟨h2.trans h.1,h.2.trans h1⟩⟩
theorem zH (G:List (List Int))(a:Int):(uF G a).length<=G.length:=Tbr (Ubb _ _) (jV G a)
noncomputable def iU (G:List (List Int)):List (List Int):=((nums G.length).filter fun i=>atI (uF G i) 0==i).map (uF G)
theorem Hbw {l:List Int}(h:l≠[]):atI l 0∈l:=bL (by have:=List.length_pos_iff.2 h;unfold InB;omega)
theorem iT {G:List (List Int)}{C:List Int}(h:C∈iU G):∃ a,InB G a/\C=uF G a/\atI C 0=a:=by
 unfold iU at h
 obtain⟨a,ha,rfl⟩:=List.mem_map.1 h
 obtain⟨h1,h2⟩:=List.mem_filter.1 ha
 exact⟨a,zC.1 h1,rfl,beq_iff_eq.1 h2⟩
theorem Ial {G:List (List Int)}(hg:GOk G){j:Int}(hj:InB G j):∃ C∈iU G,j∈C:=by
 have hs:=qF hg hj
 have hm:=Hbw (List.ne_nil_of_mem hs)
 have hi:=((rP hg hj).1 hm).1.inb hg hj
 have he:=La2 hg hj hm
 refine⟨uF G (atI (uF G j) 0),List.mem_map.2 ⟨_,List.mem_filter.2 ⟨zC.2 hi,?_⟩,rfl⟩,by rw[he];exact hs⟩
 rw[he]
 simp
theorem Iak {G:List (List Int)}(hg:GOk G){C D:List Int}(hC:C∈iU G)(hD:D∈iU G){j:Int}(h1:j∈C)(h2:j∈D):C=D:=by
 obtain⟨a,ha,rfl,-⟩:=iT hC
 obtain⟨b,hb,rfl,-⟩:=iT hD
 rw[<- La2 hg ha h1,<- La2 hg hb h2]
theorem Vah (G:List (List Int)):(iU G).Nodup:=by
 unfold iU List.Nodup
 rw[Wba]
 refine List.Pairwise.imp_of_mem (fun {a b} ha hb hab e=>?_) (List.Pairwise.filter _ (Da5 G.length))
 have h1:=beq_iff_eq.1 (List.mem_filter.1 ha).2
 have h2:=beq_iff_eq.1 (List.mem_filter.1 hb).2
 rw[e,h2]at h1
 omega
theorem rG (G:List (List Int)):(iU G).length<=G.length:=by
 unfold iU
 rw[Sb5]
 have:=Ubb (fun i=>atI (uF G i) 0==i) (nums G.length)
 rw[dA]at this
 exact this
structure CSt where
 rest:List (List Int)
 out:List (List Int)
structure Eat (G:List (List Int)) (s:CSt):Prop where
 nd:(s.rest++s.out).Nodup
 mem:∀ C,C∈s.rest++s.out↔C∈iU G
 cl:∀ C∈s.out,∀ j∈C,∀ k,Rch G j k->∃ D∈s.out,k∈D
def gB (out:List (List Int))(j:Int):Bool:=out.any fun D=>fE D j
theorem Vad {out:List (List Int)}{j:Int}:gB out j=true↔∃ D∈out,j∈D:=by
 unfold gB
 rw[Vb8]
 constructor
 ·rintro⟨D,h1,h2⟩;exact⟨D,h1,qE.1 h2⟩
 ·rintro⟨D,h1,h2⟩;exact⟨D,h1,qE.2 h2⟩
noncomputable def lK (G:List (List Int))(out:List (List Int))(C:List Int):Bool:=(fK G (atI C 0)).all fun j=>gB out j||fE C j
theorem La9 {G:List (List Int)}(hg:GOk G){out:List (List Int)}{C:List Int}(hC:InB G (atI C 0)):lK G out C=true↔∀ j,Rch G (atI C 0) j->(∃ D∈out,j∈D)\/j∈C:=by
 unfold lK
 rw[Tbp]
 constructor
 ·intro h j hj
  have:=h j ((vX hg hC).2 hj)
  rw[Uba,Vad,qE]at this
  exact this
 ·intro h j hj
  rw[Uba,Vad,qE]
  exact h j ((vX hg hC).1 hj)
theorem Eat.sub {G:List (List Int)}{s:CSt}(h:Eat G s){C:List Int}(hC:C∈s.rest):C∈iU G:=(h.mem C).1 (Sbz _ hC)
theorem Fbf {G:List (List Int)}(hg:GOk G){s:CSt}(h:Eat G s):∀ (n:Nat) (C:List Int),C∈s.rest->(fK G (atI C 0)).length<=n->∃ D∈s.rest,lK G s.out D=true
 | n, C, hC, hn => by
  obtain⟨a,ha,he,hea⟩:=iT (h.sub hC)
  have hC0:InB G (atI C 0):=by rw[hea];exact ha
  by_cases hf:lK G s.out C=true
  ·exact⟨C,hC,hf⟩
  rw[La9 hg hC0]at hf
  obtain⟨j,hf⟩:=Classical.not_forall.1 hf
  obtain⟨hj,hf⟩:=Classical.not_imp.1 hf
  rw[not_or]at hf
  obtain⟨D,hD,hjD⟩:=Ial hg (hj.inb hg hC0)
  have hDr:D∈s.rest:=by
   rcases List.mem_append.1 ((h.mem D).2 hD) with h1|h1
   ·exact h1
   ·exact absurd ⟨D,h1,hjD⟩ hf.1
  obtain⟨b,hb,hDe,heb⟩:=iT hD
  have hD0:InB G (atI D 0):=by rw[heb];exact hb
  have hjb:=(rP hg hb).1 (by rw[<- hDe];exact hjD)
  rw[<- heb]at hjb
  have hna:¬ Rch G (atI D 0) (atI C 0):=fun hr=>hf.2 (by
   rw[he,rP hg ha,<- hea]
   exact⟨hj,hjb.2.trans hr⟩)
  have hlt:(fK G (atI D 0)).length<(fK G (atI C 0)).length:=by
   have hmem:atI C 0∈fK G (atI C 0):=(vX hg hC0).2 .refl
   have h1:=jH (l:=fK G (atI D 0)) (m:=(fK G (atI C 0)).erase (atI C 0)) (vV (Da1 _ _)) fun x hx=>by
    have hx2:=(vX hg hD0).1 hx
    refine (List.mem_erase_of_ne fun e=>hna ?_).2 ((vX hg hC0).2 ((hj.trans hjb.2).trans hx2))
    rw[<- e];exact hx2
   have h2:=List.length_erase_of_mem hmem
   have h3:=Ubu hmem
   omega
  match n with
  |0=>omega
  |n+1=>exact Fbf hg h n D hDr (by omega)
noncomputable def wR (G:List (List Int))(s:CSt):Nat:=(ixF (lK G s.out) s.rest).toNat
noncomputable def cO (G:List (List Int))(s:CSt):CSt:=⟨s.rest.take (wR G s)++s.rest.drop (wR G s+1),s.out++[atI s.rest (wR G s)]⟩
theorem Eat.top {G:List (List Int)}(hg:GOk G){s:CSt}(h:Eat G s)(hr:s.rest≠[]):wR G s<s.rest.length/\ixF (lK G s.out) s.rest=(wR G s:Int)/\lK G s.out (atI s.rest (wR G s))=true/\∀ k:Nat,k<wR G s->lK G s.out (atI s.rest (k:Int))=false:=by
 obtain⟨C,hC⟩:=List.exists_mem_of_ne_nil _ hr
 obtain⟨D,hD,hf⟩:=Fbf hg h _ C hC (Sb7 _)
 obtain⟨k,hk,rfl⟩:=List.mem_iff_getElem.1 hD
 have h0:0<=ixF (lK G s.out) s.rest:=Uak hk (by rw[bC hk];exact hf)
 obtain⟨h1,h2,h3⟩:=Caq h0
 have e:ixF (lK G s.out) s.rest=(wR G s:Int):=by unfold wR;omega
 rw[e]at h1 h2
 refine⟨aG.1 h1,e,h2,fun k hk=>h3 k ?_⟩
 rw[e]
 omega
theorem Nbp {l out:List (List Int)}{i:Nat}(h:i<l.length):((l.take i++l.drop (i+1))++(out++[atI l (i:Int)])).Perm (l++out):=by
 have e:l=l.take i++atI l (i:Int)::l.drop (i+1):=by
  rw[bC h,<- Tb6 h,Ubx]
 conv=>rhs;rw[e]
 generalize l.take i=A
 generalize l.drop (i+1)=B
 generalize atI l (i:Int)=C
 rw[List.perm_iff_count]
 intro x
 simp only[List.count_append,List.count_cons,List.count_nil]
 omega
theorem Eat.step {G:List (List Int)}(hg:GOk G){s:CSt}(h:Eat G s)(hr:s.rest≠[]):Eat G (cO G s)/\(cO G s).rest.length+1=s.rest.length:=by
 obtain⟨h1,h2,h3,-⟩:=h.top hg hr
 have hp:=Nbp (out:=s.out) h1
 have hCr:atI s.rest (wR G s:Int)∈s.rest:=at_mem h1
 unfold cO
 generalize wR G s=i at *
 refine⟨⟨hp.nodup_iff.2 h.nd,fun C=>by rw[hp.mem_iff];exact h.mem C,fun C hC j hj k hk=>?_⟩,by simp only[Sby,Tbc,Tbx];omega⟩
 dsimp only at hC ⊢
 rcases List.mem_append.1 hC with hC|hC
 ·obtain⟨D,hD,hkD⟩:=h.cl C hC j hj k hk
  exact⟨D,Sbz _ hD,hkD⟩
 ·rw[Sb9]at hC
  subst hC
  obtain⟨a,ha,he,hea⟩:=iT (h.sub hCr)
  have hC0:InB G (atI (atI s.rest (i:Int)) 0):=by rw[hea];exact ha
  have hja:=(rP hg ha).1 (by rw[<- he];exact hj)
  rcases (La9 hg hC0).1 h3 k (by rw[hea];exact hja.1.trans hk) with ⟨D,hD,hkD⟩|hkC
  ·exact⟨D,Sbz _ hD,hkD⟩
  ·exact⟨_,Sb2 _ (List.mem_singleton.2 rfl),hkC⟩
noncomputable def cM (G:List (List Int)):Nat->CSt->List (List Int)
 |0,s=>s.out
 |n+1,s=>cM G n (cO G s)
noncomputable def aS (G:List (List Int)):List (List Int):=cM G (iU G).length ⟨iU G,[]⟩
theorem Eat.start (G:List (List Int)):Eat G ⟨iU G,[]⟩ :=
 ⟨by dsimp only;rw[Tbb];exact Vah G,fun C=>by dsimp only;rw[Tbb],fun C hC=>by cases hC⟩
theorem Gbf {G:List (List Int)}(hg:GOk G):∀ (n:Nat) (s:CSt),s.rest.length=n->Eat G s->Eat G ⟨[],cM G n s⟩
 | 0, s, hn, h => by
  obtain⟨rest,out⟩:=s
  have:rest=[]:=List.length_eq_zero_iff.1 hn
  subst this
  exact h
 | n + 1, s, hn, h => by
  have hr:s.rest≠[]:=fun e=>by rw[e]at hn;simp at hn
  obtain⟨h1,h2⟩:=h.step hg hr
  exact Gbf hg n (cO G s) (by omega) h1
theorem kS {G:List (List Int)}(hg:GOk G):(aS G).Nodup/\∀ C,C∈aS G↔C∈iU G:=by
 have h:=Gbf hg _ _ rfl (Eat.start G)
 exact⟨h.nd,h.mem⟩
def Hbx (G:List (List Int))(L:List (List Int))(i:Nat):Bool:=(atI L (i:Int)).all fun j=>(Vb5 L.length).all fun k:Nat=>(k==i)||(atI L (k:Int)).all fun x=>!fE (atI G j) x
theorem Qa3 {G:List (List Int)}(hg:GOk G){s:CSt}(h:Eat G s){i:Nat}(hi:i<s.rest.length):Hbx G s.rest i=lK G s.out (atI s.rest (i:Int)):=by
 have hCr:atI s.rest (i:Int)∈s.rest:=at_mem hi
 obtain⟨a,ha,he,hea⟩:=iT (h.sub hCr)
 have hC0:InB G (atI (atI s.rest (i:Int)) 0):=by rw[hea];exact ha
 have hnd:=List.nodup_append.1 h.nd
 rw[Vba,La9 hg hC0]
 unfold Hbx
 simp only[Tbp,Ub2,Uba,beq_iff_eq,Tbm,<- Bool.not_eq_true,qE]
 constructor
 ·intro hS j hj
  have key:(∃ D∈s.out,j∈D)\/j∈atI s.rest (i:Int):=by
   induction hj with
   |refl=>exact .inr (by rw[hea,he];exact qF hg ha)
   | @step b c hb hc ih =>
    rcases ih with ⟨D,hD,hbD⟩|hbC
    ·exact .inl (h.cl D hD b hbD c (.step .refl hc))
    ·have hbi:=hb.inb hg hC0
     obtain⟨D,hD,hcD⟩:=Ial hg (hg.out hbi hc)
     rcases List.mem_append.1 ((h.mem D).2 hD) with h1|h1
     ·obtain⟨k,hk,rfl⟩:=List.mem_iff_getElem.1 h1
      rcases hS b hbC k hk with e|e
      ·subst e
       exact .inr (by rw[bC hk];exact hcD)
      ·exact absurd hc (e c (by rw[bC hk];exact hcD))
     ·exact .inl ⟨D,h1,hcD⟩
  exact key
 ·intro hM j hj k hk
  by_cases e:k=i
  ·exact .inl e
  refine .inr fun x hx hc=>?_
  have hja:=(rP hg ha).1 (by rw[<- he];exact hj)
  have hkr:atI s.rest (k:Int)∈s.rest:=at_mem hk
  rcases hM x (by rw[hea];exact .step hja.1 hc) with ⟨D,hD,hxD⟩|hxC
  ·have:=Iak hg (h.sub hkr) ((h.mem D).1 (Sb2 _ hD)) hx hxD
   exact hnd.2.2 _ hkr _ hD this
  ·have:=Iak hg (h.sub hkr) (h.sub hCr) hx hxC
   rw[bC hk,bC hi]at this
   exact e ((Wbg hnd.1).1 this)
end Go.Proofs.YtpgnlmfmlffjcaaGreat.Rf

namespace Go.Proofs.YtpgnlmfmlffjcaaGreat.Rf
set_option linter.unusedVariables false
set_option linter.unusedSimpArgs false
theorem xO (ks:List Int)(n:Int):jK ks n=(atI ks n,0):=rfl
def wP (ks l:List Int)(x:Int):Nat->Nat
 |0=>0
 |k+1=>if decide (atI ks x<atI ks (atI l (k:Int))) then wP ks l x k else k+1
def Abx (ks l:List Int)(x:Int):List Int:=l.take (wP ks l x l.length)++[x]++l.drop (wP ks l x l.length)
theorem Lap (ks l:List Int)(x:Int):∀ m,wP ks l x m<=m
 |0=>Sb7 _
 | m + 1 => by
  unfold wP
  split
  ·exact Nat.le_succ_of_le (Lap ks l x m)
  ·exact Sb7 _
theorem Ebx {ks l:List Int}{x:Int}:∀ {m j:Nat},wP ks l x m<=j->j<m->atI ks x<atI ks (atI l (j:Int))
 |0,j,_,h=>by omega
 | m + 1, j, h, hj => by
  unfold wP at h
  split at h
  ·rename_i hg
   rcases Tbi j m with h1|h1
   ·exact Ebx h h1
   ·obtain rfl:j=m:=by omega
    exact of_decide_eq_true hg
  ·omega
theorem Ebw {ks l:List Int}{x:Int}:∀ {m:Nat},0<wP ks l x m->atI ks (atI l ((wP ks l x m-1:Nat):Int))<=atI ks x
 |0,h=>by simp[wP]at h
 | m + 1, h => by
  unfold wP at h ⊢
  split
  ·rename_i hg
   rw[if_pos hg]at h
   exact Ebw h
  ·rename_i hg
   have hg':¬ atI ks x<atI ks (atI l (m:Int)):=by simpa using hg
   rw[Nat.add_sub_cancel]
   omega
theorem uY (ks l:List Int)(x:Int):(Abx ks l x).Perm (x::l):=by
 unfold Abx
 have h:=Ubx (wP ks l x l.length) l
 conv=>rhs;rw[<- h]
 generalize l.take (wP ks l x l.length)=A
 generalize l.drop (wP ks l x l.length)=B
 rw[List.perm_iff_count]
 intro y
 simp only[List.count_append,List.count_cons,List.count_nil]
 omega
theorem Wa7 {ks l:List Int}{x:Int}(h:wN (jK ks) l):wN (jK ks) (Abx ks l x):=by
 have hle:∀ a b:Int,ltQ (jK ks b) (jK ks a)=false↔atI ks a<=atI ks b:=by
  intro a b
  rw[xO,xO,xI]
  dsimp only
  omega
 unfold wN at h ⊢
 simp only[hle]at h ⊢
 have hk:=Lap ks l x l.length
 have hidx:∀ i j:Nat,i<=j->j<l.length->atI ks (atI l (i:Int))<=atI ks (atI l (j:Int)):=by
  intro i j hij hj
  rcases Tbi i j with h1|h1
  ·have:=List.pairwise_iff_getElem.1 h i j (by omega) hj h1
   rw[bC (by omega),bC hj]
   exact this
  ·obtain rfl:i=j:=by omega
   exact Int.le_refl _
 have hlo:∀ y∈l.take (wP ks l x l.length),atI ks y<=atI ks x:=by
  intro y hy
  obtain⟨j,hj,rfl⟩:=List.mem_iff_getElem.1 hy
  rw[Tbc]at hj
  have h1:=Ebw (ks:=ks) (l:=l) (x:=x) (m:=l.length) (by omega)
  have h2:=hidx j (wP ks l x l.length-1) (by omega) (by omega)
  rw[bC (show j<l.length by omega)]at h2
  rw[List.getElem_take]
  omega
 have hhi:∀ y∈l.drop (wP ks l x l.length),atI ks x<=atI ks y:=by
  intro y hy
  obtain⟨j,hj,rfl⟩:=List.mem_iff_getElem.1 hy
  rw[Tbx]at hj
  have h1:=Ebx (ks:=ks) (l:=l) (x:=x) (m:=l.length) (j:=wP ks l x l.length+j) (by omega) (by omega)
  rw[bC (by omega)]at h1
  rw[List.getElem_drop]
  omega
 unfold Abx
 rw[Sb3,Wbm]
 refine⟨h.sublist (List.take_sublist _ _),?_,fun a ha b hb=>?_⟩
 ·rw[Vbl,Vbp]
  exact⟨hhi,h.sublist (List.drop_sublist _ _)⟩
 ·rw[Vbl,Tb7]at hb
  rcases hb with hb|hb
  ·rw[hb];exact hlo a ha
  ·exact Int.le_trans (hlo a ha) (hhi b hb)
theorem Rb6 {ks:List Int}:∀ (ys l:List Int),wN (jK ks) l->wN (jK ks) (ys.foldl (Abx ks) l)/\(ys.foldl (Abx ks) l).Perm (ys++l)
 |[],l,h=>⟨h,.refl _⟩
 | y :: ys, l, h => by
  obtain⟨h1,h2⟩:=Rb6 ys (Abx ks l y) (Wa7 h)
  refine⟨h1,h2.trans ?_⟩
  refine ((uY ks l y).append_left ys).trans ?_
  rw[Ub3]
  exact List.perm_middle
theorem Laq {ks ys:List Int}(hi:∀ x∈ys,∀ y∈ys,atI ks x=atI ks y->x=y):ys.foldl (Abx ks) []=lC (jK ks) ys:=by
 obtain⟨h1,h2⟩:=Rb6 (ks:=ks) ys [] List.Pairwise.nil
 rw[Tbb]at h2
 refine Iaz _ h2 h1 fun x hx y hy e=>hi x hx y hy ?_
 rw[xO,xO]at e
 exact (Prod.mk.inj e).1
theorem wX {β:Type}(k:β->Int×Int)(l:List β):(lC k l).length=l.length:=(jZ k l).length_eq
noncomputable def pE (G:List (List Int))(ks:List Int)(m:Nat):List Int:=((aS G).take m).flatMap (lC (jK ks))
noncomputable def jS (G:List (List Int))(ks:List Int):List Int:=(aS G).flatMap (lC (jK ks))
theorem qY {G:List (List Int)}{ks:List Int}{m:Nat}(h:m<(aS G).length):pE G ks (m+1)=pE G ks m++lC (jK ks) (atI (aS G) (m:Int)):=by
 unfold pE
 rw[<- take_at h,Ub9,List.flatMap_cons,List.flatMap_nil,Tbb]
theorem qZ (G:List (List Int))(ks:List Int):pE G ks (aS G).length=jS G ks:=by unfold pE jS;rw[Tbh]
theorem Har {G:List (List Int)}(hg:GOk G){ks:List Int}{j:Int}:j∈jS G ks↔InB G j:=by
 unfold jS
 rw[Vbi]
 constructor
 ·rintro⟨C,hC,hj⟩
  obtain⟨a,ha,rfl,-⟩:=iT (((kS hg).2 C).1 hC)
  exact ((rP hg ha).1 ((jZ _ _).mem_iff.1 hj)).1.inb hg ha
 ·intro hj
  obtain⟨C,hC,hjC⟩:=Ial hg hj
  exact⟨C,((kS hg).2 C).2 hC,(jZ _ _).mem_iff.2 hjC⟩
theorem vY {G:List (List Int)}(hg:GOk G)(ks:List Int):(jS G ks).Nodup:=by
 obtain⟨h1,h2⟩:=kS hg
 unfold jS
 unfold List.Nodup
 rw[List.flatMap_def,List.pairwise_flatten]
 constructor
 ·intro l hl
  obtain⟨C,hC,rfl⟩:=List.mem_map.1 hl
  obtain⟨a,ha,rfl,-⟩:=iT ((h2 C).1 hC)
  exact (jZ _ _).nodup_iff.2 (vV (Eaa _ _))
 ·rw[Wba]
  refine List.Pairwise.imp_of_mem (fun {C D} hC hD hne x hx y hy e=>?_) h1
  subst e
  exact hne (Iak hg ((h2 C).1 hC) ((h2 D).1 hD) ((jZ _ _).mem_iff.1 hx) ((jZ _ _).mem_iff.1 hy))
theorem Oaw {G:List (List Int)}(hg:GOk G)(ks:List Int):(jS G ks).length<=G.length:=by
 have:=jH (vY hg ks) (m:=nums G.length) fun x hx=>zC.2 ((Har hg).1 hx)
 rw[dA]at this
 exact this
theorem uE {G:List (List Int)}(hg:GOk G)(ks:List Int)(m:Nat):(pE G ks m).length<=G.length:=by
 have h:=Oaw hg ks
 have e:jS G ks=pE G ks m++((aS G).drop m).flatMap (lC (jK ks)):=by
  unfold pE jS
  rw[<- Ub9,Ubx]
 rw[e,Sby]at h
 omega
theorem kI:(∀ {n:Int},0<=n->n<=100000000000->(aN.make 1 [(.bool false)]).run [i64 n]=some [rL (Sb1 n.toNat false)]) /\
  (∀ {xs:List Bool} {k:Int},InB xs k->(aN.row 1 0 [true]).run [rL xs,i64 k]=some [.bool (atI xs k)]) /\
  (∀ {xs:List Bool} {k:Int} {b:Bool},InB xs k->(aN.set 1 0 1).run [rL xs,i64 k,.bool b]=some [rL (dB xs k b)]) /\
  (∀ {xs:List Bool} {k:Int},InB xs k->aN.inb.run [rL xs,i64 k]=some [])/\(∀ {xs:List Bool},xs.length<=1099511627776->aN.len.run [rL xs]=some [i64 xs.length]) :=
 ⟨fun h h2=>uR rfl h (by unfold dF;omega),fun h=>gH rfl h,fun h=>iK rfl rfl (by simp[Enc.sz]) rfl h,fun h=>Lbi h,fun h=>by simp[rL,aN.run]⟩
theorem Qa6 {α:Type}[Inhabited α]{xs:List α}{p:α->Bool}{k:Nat}(h:k<xs.length):(xs.take (k+1)).filter p=(xs.take k).filter p++if p (atI xs (k:Int)) then [atI xs (k:Int)] else []:=by
 rw[<- take_at h,Tbu]
 congr 1
 cases hp:p (atI xs (k:Int))
 ·rw[List.filter_cons_of_neg (by rw[hp];simp)];rfl
 ·rw[List.filter_cons_of_pos hp];rfl
theorem Qac {n:Nat}{β:Type}[Inhabited β]{f:Int->β}{j:Int}(h:0<=j/\j<n):atI ((nums n).map f) j=f j:=by
 obtain⟨k,rfl⟩:∃ k:Nat,j=(k:Int):=⟨j.toNat,by omega⟩
 rw[bC (by rw[Sb5,dA];omega),Vbc]
 simp[nums]
noncomputable def rsM (G:List (List Int)):List (List Int):=(nums G.length).map (fK G)
theorem Pa4 (G:List (List Int)):(rsM G).length=G.length:=by unfold rsM;rw[Sb5,dA]
theorem uO {G:List (List Int)}{j:Int}(h:InB G j):atI (rsM G) j=fK G j:=Qac h
theorem oI {G:List (List Int)}{j:Int}(h:InB G j):InB (rsM G) j:=by unfold InB at h ⊢;rw[Pa4];exact h
theorem zG {G:List (List Int)}(hg:GOk G){a j:Int}(ha:InB G a):fE (fK G a) j=tO G a j:=by
 rw[Vba,qE,vX hg ha,Ja7]
noncomputable def Vak (G:List (List Int))(m:Nat):List (List Int):=((nums m).filter fun i=>atI (uF G i) 0==i).map (uF G)
theorem yF (G:List (List Int))(m:Nat):Vak G (m+1)=Vak G m++if atI (uF G (m:Int)) 0==(m:Int) then [uF G (m:Int)] else []:=by
 unfold Vak
 rw[mI,Tbu,Tby]
 congr 1
 rw[Ubq,Tbz]
 cases h:(atI (uF G (m:Int)) 0==(m:Int))<;>rfl
theorem Ca2 (G:List (List Int))(m:Nat):(Vak G m).length<=m:=by
 unfold Vak
 rw[Sb5]
 have:=Ubb (fun i=>atI (uF G i) 0==i) (nums m)
 rw[dA]at this
 exact this
noncomputable def Cb7 (G:List (List Int))(i:Int)(m:Nat):List Int:=(nums m).filter fun j=>tO G i j&&tO G j i
theorem La1 (G:List (List Int))(i:Int)(m:Nat):Cb7 G i (m+1)=Cb7 G i m++if tO G i (m:Int)&&tO G (m:Int) i then [(m:Int)] else []:=by
 unfold Cb7
 rw[mI,Tbu]
 congr 1
 rw[Ubq,Tbz]
theorem Qaz (G:List (List Int))(i:Int):Cb7 G i G.length=uF G i:=by
 unfold Cb7 uF fK
 rw[List.filter_filter]
 congr 1
 funext j
 rw[Bool.and_comm]
theorem Qay (G:List (List Int))(i:Int)(m:Nat):(Cb7 G i m).length<=m:=by
 have:=Ubb (fun j=>tO G i j&&tO G j i) (nums m)
 rw[dA]at this
 exact this
theorem Eab {G:List (List Int)}{a j:Int}(h:j∈uF G a):InB G j:=by
 unfold uF at h
 exact yX (List.mem_filter.1 h).1
def jO (n:Nat)(out:List (List Int)):List Bool:=(nums n).map (gB out)
theorem xX (n:Nat)(out:List (List Int)):(jO n out).length=n:=by unfold jO;rw[Sb5,dA]
theorem Hbo {n:Nat}{p:Int->Bool}{c:Int}(h:0<=c/\c<n):dB ((nums n).map p) c true=(nums n).map fun j=>p j||j==c:=by
 unfold dB
 apply Wbq
 ·rw[Ubn,Sb5,Sb5]
 ·intro k h1 h2
  rw[Sb5,dA]at h2
  rw[List.getElem_set,Vbc,Vbc]
  have e:(nums n)[k]'(by rw[dA];exact h2)=(k:Int):=by simp[nums]
  rw[e]
  split
  ·rename_i hk
   have:((k:Int)==c)=true:=by rw[beq_iff_eq];omega
   rw[this,Vbk]
  ·rename_i hk
   have:((k:Int)==c)=false:=by rw[beq_eq_false_iff_ne];omega
   rw[this,Ubz]
theorem Kae {C:List Int}{k:Nat}(h:k<C.length)(j:Int):fE (C.take (k+1)) j=(fE (C.take k) j||j==atI C (k:Int)):=by
 unfold fE
 rw[<- take_at h,List.any_append,List.any_cons,List.any_nil,Ubz]
 congr 1
 rw[Vba,beq_iff_eq,beq_iff_eq]
 exact eq_comm
theorem Fbt (out:List (List Int))(C:List Int)(j:Int):gB (out++[C]) j=(gB out j||fE C j):=by
 unfold gB
 rw[List.any_append,List.any_cons,List.any_nil,Ubz]
theorem Eat.len {G:List (List Int)}{s:CSt}(h:Eat G s):s.rest.length+s.out.length<=G.length:=by
 have h1:=jH h.nd (m:=iU G) fun C hC=>(h.mem C).1 hC
 rw[Sby]at h1
 exact Tbr h1 (rG G)
theorem Eat.grp {G:List (List Int)}(hg:GOk G){s:CSt}(h:Eat G s){C:List Int}(hC:C∈s.rest):C.length<=G.length/\0<C.length/\(∀ j∈C,InB G j)/\InB C 0/\InB G (atI C 0):=by
 obtain⟨a,ha,he,hea⟩:=iT (h.sub hC)
 have hs:a∈C:=by rw[he];exact qF hg ha
 have hp:=Ubu hs
 exact⟨by rw[he];exact zH G a,hp,fun j hj=>Eab (by rw[<- he];exact hj),by unfold InB;omega,by rw[hea];exact ha⟩
def Baq (G:List (List Int))(L:List (List Int))(i:Nat)(j:Int)(k:Nat)(m:Nat):Bool:=(k==i)||((atI L (k:Int)).take m).all fun x=>!fE (atI G j) x
def Ca7 (G:List (List Int))(L:List (List Int))(i:Nat)(j:Int)(m:Nat):Bool:=(Vb5 m).all fun k:Nat=>(k==i)||(atI L (k:Int)).all fun x=>!fE (atI G j) x
def zI (G:List (List Int))(L:List (List Int))(i:Nat)(m:Nat):Bool:=((atI L (i:Int)).take m).all fun j=>Ca7 G L i j L.length
theorem Ha9 (G L:List (List Int))(i:Nat)(j:Int)(k:Nat):Baq G L i j k 0=true:=by simp[Baq]
theorem Iaa {G L:List (List Int)}{i:Nat}{j:Int}{k m:Nat}(h:m<(atI L (k:Int)).length):Baq G L i j k (m+1)=(Baq G L i j k m&&((k==i)||!fE (atI G j) (atI (atI L (k:Int)) (m:Int)))):=by
 unfold Baq
 rw[<- take_at h,List.all_append,Vb9,List.all_nil,Ub8]
 cases (k==i)<;>simp
theorem Fbg {G L:List (List Int)}{i:Nat}{j:Int}{k:Nat}:Baq G L i j k (atI L (k:Int)).length=((k==i)||(atI L (k:Int)).all fun x=>!fE (atI G j) x):=by
 unfold Baq
 rw[Tbh]
theorem Ha7 (G L:List (List Int))(i:Nat)(j:Int):Ca7 G L i j 0=true:=rfl
theorem Ha8 (G L:List (List Int))(i:Nat)(j:Int)(m:Nat):Ca7 G L i j (m+1)=(Ca7 G L i j m&&Baq G L i j m (atI L (m:Int)).length):=by
 rw[Fbg]
 unfold Ca7
 rw[Vbb,List.all_append,Vb9,List.all_nil,Ub8]
theorem Ha5 (G L:List (List Int))(i:Nat):zI G L i 0=true:=by simp[zI]
theorem Ha6 {G L:List (List Int)}{i m:Nat}(h:m<(atI L (i:Int)).length):zI G L i (m+1)=(zI G L i m&&Ca7 G L i (atI (atI L (i:Int)) (m:Int)) L.length):=by
 unfold zI
 rw[<- take_at h,List.all_append,Vb9,List.all_nil,Ub8]
theorem Maa (G L:List (List Int))(i:Nat):zI G L i (atI L (i:Int)).length=Hbx G L i:=by
 unfold zI Hbx Ca7
 rw[Tbh]
theorem Maq {xs:List (List Int)}{i:Nat}(h:i<xs.length)(hl:xs.length<=1000000):Fbx 1 [Uat xs (i:Int),i64 (i:Int),i64 ((i:Int)+1)]=some [rL (xs.take i++xs.drop (i+1))]:=by
 unfold Uat Fbx
 have hlen:((xs.map Enc.enc).set ((i:Int)).toNat [D.hole]).length=xs.length:=by rw[Ubn,Sb5]
 have e1:((i:Int)).toNat=i:=Tbk i
 have e2:((i:Int)+1).toNat=i+1:=by omega
 show (if _ then _ else _)=_
 rw[if_pos ⟨rfl,by omega,by omega,by rw[hlen];omega,by rw[hlen];omega,by rw[hlen];omega⟩,e1,e2]
 rw[List.take_set_of_le (Sb7 _),List.drop_set_of_lt (Nat.lt_succ_self _)]
 simp only[rL,Tby,List.map_take,List.map_drop]
 rfl
theorem Mam {n:Nat}{out:List (List Int)}{C:List Int}{m:Nat}(hm:m<C.length)(h:0<=atI C (m:Int)/\atI C (m:Int)<n):dB ((nums n).map fun j=>gB out j||fE (C.take m) j) (atI C (m:Int)) true=(nums n).map fun j=>gB out j||fE (C.take (m+1)) j:=by
 rw[Hbo h]
 congr 1
 funext j
 rw[Kae hm,Bool.or_assoc]
theorem Eai (n:Nat)(out:List (List Int))(C:List Int):((nums n).map fun j=>gB out j||fE (C.take 0) j)=jO n out:=by
 unfold jO
 congr 1
 funext j
 rw[List.take_zero]
 show (gB out j||false)=_
 rw[Ubz]
theorem Mao (n:Nat)(out:List (List Int))(C:List Int):((nums n).map fun j=>gB out j||fE (C.take C.length) j)=jO n (out++[C]):=by
 unfold jO
 congr 1
 funext j
 rw[Tbh,Fbt]
theorem Man (n:Nat):jO n []=Sb1 n false:=by
 unfold jO
 apply Wbq
 ·rw[Sb5,dA,Tbq]
 ·intro k h1 h2
  rw[Vbc,List.getElem_replicate]
  rfl
theorem Rbw:(∀ {xs:List (List Int)},0<xs.length->aN.ne.run [rL xs]=some [])/\(∀ {xs:List Bool},0<xs.length->aN.ne.run [rL xs]=some []):=by
 constructor
 ·intro xs h
  cases xs with
  |nil=>simp at h
  |cons x xs=>rfl
 ·intro xs h
  cases xs with
  |nil=>simp at h
  |cons x xs=>rfl
def hsD (xs:List (List Int))(p:Int->Bool):D:=.rows 1 ((nums xs.length).map fun j=>if p j then [D.hole] else Enc.enc (atI xs j))
theorem Eb8 (xs:List (List Int)){p:Int->Bool}(h:∀ j,InB xs j->p j=false):hsD xs p=rL xs:=by
 unfold hsD rL
 congr 1
 apply Wbq
 ·rw[Sb5,Sb5,dA]
 ·intro k h1 h2
  rw[Sb5]at h2
  rw[Vbc,Vbc]
  have e:(nums xs.length)[k]'(by rw[dA];exact h2)=(k:Int):=by simp[nums]
  rw[e,h _ (aG.2 h2),bC h2]
  rfl
theorem Eb9 {xs:List (List Int)}{p:Int->Bool}{k:Int}(h:InB xs k):((nums xs.length).map fun j=>if p j then [D.hole] else Enc.enc (atI xs j))[k.toNat]?=some (if p k then [D.hole] else Enc.enc (atI xs k)):=by
 have h1:=h.lt
 unfold InB at h
 rw[List.getElem?_map,Sb0 (by rw[dA];exact h1)]
 have e:(nums xs.length)[k.toNat]'(by rw[dA];exact h1)=k:=by simp[nums];omega
 rw[e]
 rfl
theorem Xae {xs:List (List Int)}{p:Int->Bool}{k:Int}(h:InB xs k):aN.inb.run [hsD xs p,i64 k]=some []:=by
 unfold InB at h
 unfold hsD
 show (if _ then _ else _)=_
 rw[if_pos]
 rw[Sb5,dA]
 exact h
theorem Xad {xs:List (List Int)}{p:Int->Bool}{k:Int}(h:InB xs k)(hp:p k=false):(aN.row 1 0 [false]).run [hsD xs p,i64 k]=some [rL (atI xs k)]:=by
 unfold hsD
 show (if _ then _ else _)=_
 rw[if_pos ⟨rfl,h.1⟩,Eb9 h,hp]
 rfl
theorem Qaw {xs:List (List Int)}{p:Int->Bool}{k:Int}(h:InB xs k):(aN.set 1 0 1).run [hsD xs p,i64 k,.hole]=some [hsD xs fun j=>p j||j==k]:=by
 unfold hsD
 show (if _ then _ else _)=_
 rw[if_pos ⟨rfl,h.1⟩,Eb9 h]
 have hk:=h.lt
 unfold InB at h
 have e0:∀ r:List D,(r=[.hole]\/∃ d,r=[d])->r.take 0++[D.hole]++r.drop (0+1)=[.hole]:=by
  rintro r (rfl|⟨d,rfl⟩)<;>rfl
 have e1:(if p k=true then [D.hole] else Enc.enc (atI xs k)).length=1:=by cases p k<;>rfl
 dsimp only
 rw[if_pos ⟨by rw[e1];exact Sb7 _,rfl⟩,e0 _ (by cases p k;exact .inr ⟨_,rfl⟩;exact .inl rfl)]
 refine congrArg (fun l=>some [D.rows 1 l]) (Wbq ?_ ?_)
 ·rw[Ubn,Sb5,Sb5]
 ·intro i h1 h2
  rw[Sb5,dA]at h2
  rw[List.getElem_set,Vbc,Vbc]
  have e:(nums xs.length)[i]'(by rw[dA];exact h2)=(i:Int):=by simp[nums]
  rw[e]
  split
  ·rename_i hk2
   have:((i:Int)==k)=true:=by rw[beq_iff_eq];omega
   simp only[this,Vbk,if_true]
  ·rename_i hk2
   have:((i:Int)==k)=false:=by rw[beq_eq_false_iff_ne];omega
   simp only[this,Ubz]
theorem Lar {l kl:List Int}(h1:∀ n∈l,InB kl n)(h2:∀ k∈kl,0<=k/\k<=1000000000)(h3:∀ n∈l,∀ m∈l,atI kl n=atI kl m->n=m):Dak l kl=true:=by
 unfold Dak
 simp only[Sbu,Tbp,decide_eq_true_eq,Uba,Tbm,beq_eq_false_iff_ne,beq_iff_eq]
 refine⟨⟨fun n hn=>⟨(h1 n hn).1,(h1 n hn).lt⟩,h2⟩,fun n hn m hm=>?_⟩
 by_cases e:jK kl n=jK kl m
 ·refine .inr (h3 n hn m hm ?_)
  rw[xO,xO]at e
  exact (Prod.mk.inj e).1
 ·exact .inl e
theorem Uam:∀ (l:List Int),Nav (l.map Enc.enc)=some l:=fun l=>Ual l
theorem Xa1 {l kl:List Int}(h:Dak l kl=true)(hl:l.length<=1000000):Dae [rL l,rL kl]=some [rL (lC (jK kl) l)]:=by
 show ((Nav (l.map Enc.enc)).bind fun l=>(Nav (kl.map Enc.enc)).bind fun kl=>if l.length<=Aaw/\Dak l kl=true then some [D.rows 1 ((lC (jK kl) l).map fun p=>[D.int .i64 p])] else none)=_
 rw[Uam,Uam]
 show (if _ then _ else _)=_
 rw[if_pos ⟨hl,h⟩]
 rfl
end Go.Proofs.YtpgnlmfmlffjcaaGreat.Rf
