import Derived.Test.YtgpamlpecmldfaaGreatRf1
import Derived.WalkKit
import Derived.Laws.StructEq
import Derived.Laws.BytesArg
set_option linter.all false
open Array renaming ext' → Zbc
open Bool renaming and_eq_true → Vbk, false_eq_true → Vbm, not_eq_true' → Vb9, or_eq_true → Wb9
open List renaming getElem?_eq_some_iff → Vbn, mem_singleton → Vbp, getElem?_eq_getElem → Vbq, mem_cons → Vbu, getElem?_cons_zero → Vbv, mem_cons_of_mem → Vb1, mem_of_getElem? → Vb3, mem_cons_self → Vb7, map_cons → Wbe, all_eq_true → Wbg, length_take → Wbh, length_map → Wbm, append_nil → Wbo, getElem?_map → Wbs, getElem?_drop → Wbt, map_nil → Wbu, getElem?_take → Wbw, getElem?_cons_succ → Wbz, length_drop → Wb4, length_singleton → Xbd, eq_nil_of_length_eq_zero → Xbi, mem_of_mem_drop → Xbj, getElem?_eq_none → Xbx, cons_append → Xb0, mem_of_mem_take → Yba, map_append → Ybj
open List.cons renaming injEq → Xbh, inj → Zbd
open Nat renaming add_assoc → Vb8, lt_or_ge → Wbc, zero_add → Wbj, beq_eq → Wbl, ble_eq → Wb6
open Option renaming bind_eq_some_iff → Vbj, bind_some → Vbs, map_eq_some_iff → Vb4, map_some → Wb5
open Option.some renaming injEq → Vbl, inj → Wbk
open Prod.mk renaming injEq → Wbd
namespace Go.Proofs.YtgpamlpecmldfaaGreat.Rf
theorem RdM.run_eval {α:Type}{look:Nat->Option aQ}{m:RdM α}{x:α}{log:List Nat}(h:m.run look=some (x,log)):m.eval look=some x:=by
 induction m generalizing log with
 | ret a =>
  simp only[RdM.run,Vbl,Wbd]at h;rw[h.1];rfl
 |no=>cases h
 | rd k f ih =>
  simp only[RdM.run,Vb4]at h;obtain⟨⟨y,l⟩,h1,h2⟩:=h;simp only[Wbd]at h2;obtain⟨rfl,_⟩:=h2;exact ih _ h1
theorem RdM.run_same {α:Type}{look xd:Nat->Option aQ}{m:RdM α}{x:α}{log:List Nat}(h:m.run look=some (x,log))(hs:∀ k∈log,xd k=look k):m.run xd=some (x,log):=by
 induction m generalizing log with
 |ret a=>exact h
 |no=>cases h
 | rd k f ih =>
  simp only[RdM.run,Vb4]at h ⊢;obtain⟨⟨y,l⟩,h1,h2⟩:=h;simp only[Wbd]at h2;obtain⟨rfl,rfl⟩:=h2;refine⟨(y,l),?_,rfl⟩;rw[hs k Vb7];exact ih _ h1 fun j hj=>hs j (Vb1 _ hj)
section
variable {α γ:Type} {look:Nat->Option aQ}
theorem aC (a:α):(RdM.ret a).eval look=some a:=rfl
theorem bT:(RdM.no:RdM α).eval look=none:=rfl
theorem Zao (k:Nat)(f:Option aQ->RdM α):(RdM.rd k f).eval look=(f (look k)).eval look:=rfl
theorem aA (m:RdM α)(f:α->RdM γ):(m >>= f).eval look=(m.eval look).bind fun x=>(f x).eval look:=by
 show (RdM.bind m f).eval look=_
 induction m with
 |ret a=>rfl
 |no=>rfl
 |rd k g ih=>exact ih _
theorem aR (k:Nat):(rdK k).eval look=some (look k):=rfl
theorem aV (x:Option α):(oP x).eval look=x:=by cases x<;>rfl
theorem aH (b:Bool):(bQ b).eval look=if b=true then some () else none:=by cases b<;>rfl
theorem gZ (c:Bool)(x y:RdM α):(bif c then x else y).eval look=if c=true then x.eval look else y.eval look:=by cases c<;>rfl
end
def Uap (cf:Nat->List D->Option (List D))(ρ:List D)(g:Option (aI×Bool))(nv:Nat):Step->Prop
 | .prim p xs n => (gOn ρ g = true -> ∃ ds, p.run (xs.map (·.val ρ)) = some ds /\ ds.length = n /\ ∀ j d, ds[j]? = some d -> (aI.v (nv + j)).val ρ = d) /\
   (gOn ρ g=false->∀ j,j<n->(aI.v (nv+j)).val ρ=.undef)
 | .call f xs n olds => (gOn ρ g = true -> ∃ ds, cf f (xs.map (·.val ρ)) = some ds /\ ds.length = n /\ ∀ j d, ds[j]? = some d -> (aI.v (nv + j)).val ρ = d) /\
   (gOn ρ g=false->∀ j d,(List.replicate (n-olds.length) D.undef++olds.map (·.val ρ))[j]?=some d->(aI.v (nv+j)).val ρ=d)
def aJ (cf:Nat->List D->Option (List D))(ρ:List D)(g:Option (aI×Bool)):Nat->List Step->Prop
 |_,[]=>True
 |nv,s::r=>Uap cf ρ g nv s/\aJ cf ρ g (nv+s.n) r
structure vV (P:Program) (ti:Nat->Option TI):Prop where
 ok:∀ t i,ti t=some i->Fao P t=some i
structure dF (P:Program) (t:TypeId) (i:TI) (info:TypeInfo) (u:TypeDesc):Prop where
 info_:P.info? t=some info
 und:P.underlying t=some u
 cells:(flat P 12 t).map (·.map (pG P))=some i.cells
 len:i.cells.length=i.size
 zero:Saz i.agg info.zero i.cells=true
 eq:i=Pb4 P t info u i.cells
theorem aW {P:Program}{t:TypeId}{i:TI}(h:Fao P t=some i):∃ info u,dF P t i info u:=by
 unfold Fao at h
 cases h1:P.info? t with
 |none=>rw[h1]at h;cases h
 | some info =>
  cases h2:P.underlying t with
  |none=>rw[h1,h2]at h;cases h
  | some u =>
   cases h3:(flat P 12 t).map (·.map (pG P)) with
   |none=>rw[h1,h2,h3]at h;cases h
   | some cs =>
    rw[h1,h2,h3]at h;dsimp only at h
    cases hb:(Nat.beq cs.length info.size&&Saz (Jar u) info.zero cs) with
    |false=>rw[hb]at h;cases h
    | true =>
     rw[hb]at h;obtain rfl:=Wbk h;simp only[Vbk,Wbl]at hb;exact⟨info,u,h1,h2,h3,hb.1,hb.2,rfl⟩
section
variable {P:Program} {t:TypeId} {i:TI} {info:TypeInfo} {u:TypeDesc}
theorem dF.agg (h:dF P t i info u):i.agg=Jar u:=by rw[h.eq];rfl
theorem dF.size (h:dF P t i info u):i.size=info.size:=by rw[h.eq];rfl
theorem dF.elem (h:dF P t i info u):i.elem=Zaw u:=by rw[h.eq];rfl
theorem dF.flds (h:dF P t i info u):i.flds=Zak u:=by rw[h.eq];rfl
theorem dF.bytes (h:dF P t i info u):i.bytes=info.bytes:=by rw[h.eq];rfl
theorem dF.ik (h:dF P t i info u):i.ik=Obp u:=by rw[h.eq];rfl
theorem Oad (h:P.underlying t=some u)(w:World):(Go.isAgg t).run P w=.ok (Jar u) w:=by
 simp only[Go.isAgg,underlying,program,bind,pure,Sem.bind,Sem.run,h];cases u<;>rfl
theorem run_sizeOf (h:P.info? t=some info)(w:World):(Go.sizeOf t).run P w=.ok info.size w:=by
 simp only[Go.sizeOf,typeInfo,program,bind,pure,Sem.bind,Sem.run,h]
theorem run_underlying (h:P.underlying t=some u)(w:World):(Go.underlying t).run P w=.ok u w:=by
 simp only[underlying,program,bind,pure,Sem.bind,Sem.run,h]
theorem dF.isAgg (h:dF P t i info u)(w:World):(Go.isAgg t).run P w=.ok i.agg w:=by rw[Oad h.und,h.agg]
theorem dF.sizeOf (h:dF P t i info u)(w:World):(Go.sizeOf t).run P w=.ok i.size w:=by rw[run_sizeOf h.info_,h.size]
end
theorem D.beq0_eq {a b:D}(h:a.beq0 b=true):a=b:=by
 unfold D.beq0 at h;split at h<;>first|cases h|skip
 ·simp only[Vbk,Obu,decide_eq_true_eq]at h
  rw[h.1,h.2]
 ·simp only[beq_iff_eq]at h;rw[h]
 ·simp only[beq_iff_eq]at h;rw[h]
 ·simp only[Wbl]at h;rw[h]
 ·rfl
 ·rfl
theorem aI.beq0_eq {a b:aI}(h:a.beq0 b=true):a=b:=by
 unfold aI.beq0 at h;split at h
 ·simp only[Wbl]at h;rw[h]
 ·rw[D.beq0_eq h]
 ·cases h
theorem Ra5 {g h:Option (aI×Bool)}(e:Hbj g h=true):g=h:=by
 unfold Hbj at e;split at e
 ·rfl
 ·simp only[Vbk,beq_iff_eq]at e
  rw[aI.beq0_eq e.1,e.2]
 ·cases e
section
variable {P:Program} {E:Env} {F:bK} {σ:Nat->Option aQ} {ρ:List D} {a:Act} {w:World} {G:Gh} {g:Option (aI×Bool)}
theorem Fb1 (hg:gOn ρ g=true){v:SV}{u:Value}(h:dC σ ρ G w v u):dC σ ρ G w (unG g v) u:=by
 unfold unG;split
 ·rename_i h' x
  cases e:Hbj g (some h') with
  |false=>exact h
  | true =>
   simp only[dC,aB,cond_true]at h ⊢;exact h.2 (Ra5 e▸hg)
 ·exact h
theorem Saf {ti:Nat->Option TI}{t:TypeId}{v:Value}{sv:SV}(h:Sag ti t v=some sv):dC σ ρ G w sv v:=by
 unfold Sag at h;split at h
 ·obtain rfl:=Wbk h;exact .int _ _
 ·obtain rfl:=Wbk h;exact .bool _
 ·obtain rfl:=Wbk h
  rename_i s;have:=Sc.str s.data.toList;simpa[dC,aB,aI.val] using this
 ·split at h
  ·obtain rfl:=Wbk h
   simp only[dC,aB];refine⟨⟨rfl,by simp⟩,fun _=>⟨?_,?_,trivial⟩⟩
   ·exact .rows none ⟨0,0,none⟩ 0 0 _ [] (fun _ _=>undef) rfl (Nat.le_refl _) (.inl rfl) (by simp) (by simp) (by simp)
   ·exact fun _ z _=>trivial
  ·cases h
 ·obtain rfl:=Wbk h;rfl
 ·cases h
theorem gK (hR:R E.ntmps F σ ρ a w G)(hg:gOn ρ g=true){t:TypeId}{x:Operand}{sv:SV}(h:(Oap E g t x).eval σ=some sv):dC σ ρ G w sv (a.eval x):=by
 cases x with
 | tmp k =>
  simp only[Oap,Zao]at h;split at h
  ·rename_i g' v hk
   rw[gZ]at h;split at h
   ·rename_i hb
    simp only[Vbk]at hb;simp only[aC,Vbl]at h;subst h;refine Fb1 hg ?_
    have hg':gOn ρ g'=true:=by
     cases g' with
     |none=>rfl
     |some z=>exact Ra5 hb.1▸hg
    have:=hR.slot hk hg';unfold Aa6 at this;rw[if_pos (by simpa using hb.2)]at this;exact this
   ·cases h
  ·cases h
 | const v =>
  simp only[Oap,aV]at h;exact Saf h
 |global _=>cases h
 | func f =>
  simp only[Oap,aC,Vbl]at h;subst h;simp only[dC,aB];exact⟨[],rfl,by simp[aD]⟩
theorem fV (hR:R E.ntmps F σ ρ a w G)(hg:gOn ρ g=true){t:TypeId}{x:Operand}{l:aP}(h:(rdL E g t x).eval σ=some l):aB σ ρ G w l (a.eval x):=by
 simp only[rdL,aA,Vbj]at h;obtain⟨sv,h1,h2⟩:=h;have:=gK hR hg h1;unfold one at h2;split at h2
 ·simp only[aC,Vbl]at h2
  subst h2;exact this
 ·cases h2
theorem kC (hg:gOn ρ g=true){l:aP}{x:aI}{v:Value}(h:vK g l=some x)(hl:aB σ ρ G w l v):Sc v (x.val ρ):=by
 unfold vK at h;split at h
 ·obtain rfl:=Wbk h
  simpa[aB] using hl
 ·rename_i h' y
  cases e:Hbj g (some h') with
  |false=>rw[e]at h;cases h
  | true =>
   rw[e]at h;obtain rfl:=Wbk h;simp only[aB]at hl;exact hl.2 (Ra5 e▸hg)
 ·cases h
theorem jO (hR:R E.ntmps F σ ρ a w G)(hg:gOn ρ g=true){t:TypeId}{x:Operand}{y:aI}(h:(rdA E g t x).eval σ=some y):Sc (a.eval x) (y.val ρ):=by
 simp only[rdA,aA,Vbj,aV]at h;obtain⟨l,h1,h2⟩:=h;exact kC hg h2 (fV hR hg h1)
end
def Nx (n:Nat)(F:bK)(σ:Nat->Option aQ)(ρ:List D)(u:List (Nat×aQ))(a:Act)(w:World):Prop:=∃ G,R n F (upds σ u) ρ a w G
def fQ (n:Nat)(o:Oper):Prop:=∀ d,o.dst=some d->d<n
section
variable {P:Program} {E:Env} {F:bK} {σ:Nat->Option aQ} {ρ:List D} {a:Act} {w w':World} {G:Gh} {g:Option (aI×Bool)} {o:Oper} {cf:Nat->List D->Option (List D)} {Q:Exit->Act->World->Prop} {next:Act->World->Prop}
theorem oM {v:Value}(h:(execOp a.eval o).run P w=.ok (.value v) w')(hn:next (a.put o.dst v) w'):o.wp P a w next Q:=by
 unfold Oper.wp;rw[h];exact hn
theorem Sa0 (h:(execOp a.eval o).run P w=.ok .skip w')(hn:next (a.put o.dst undef) w'):o.wp P a w next Q:=by
 unfold Oper.wp;rw[h];exact hn
theorem Lat (hR:R E.ntmps F σ ρ a w G)(hd:fQ E.ntmps o)(hg:gOn ρ g=true){v:Value}{nv:Nat}(h:(execOp a.eval o).run P w=.ok (.value v) w)
  (hv:Sc v ((aI.v nv).val ρ)):o.wp P a w (Nx E.ntmps F σ ρ (eG o none (mkS g (.v nv)))) Q:=by
 refine oM h ⟨G,hR.pure o hd none _ v fun _=>?_⟩
 cases g with
 |none=>exact hv
 | some z =>
  simp only[mkS,dC,aB];exact⟨.inl hv,fun _=>hv⟩
theorem Gbw (hR:R E.ntmps F σ ρ a w G)(hd:fQ E.ntmps o)(hg:gOn ρ g=false){nv:Nat}(hv:(aI.v nv).val ρ=.undef) :
  Nx E.ntmps F σ ρ (eG o none (mkS g (.v nv))) (a.put o.dst undef) w:=by
 refine⟨G,hR.pure o hd none _ undef fun _=>?_⟩
 cases g with
 |none=>cases hg
 | some z =>
  simp only[mkS,dC,aB];exact⟨.inr ⟨trivial,hv⟩,fun h=>by rw[h]at hg;cases hg⟩
theorem Kb1 (hR:R E.ntmps F σ ρ a w G)(hd:fQ E.ntmps o)(hg:gOn ρ g=false){sv:SV} :
  Nx E.ntmps F σ ρ (eG o g sv) (a.put o.dst undef) w:=⟨G,hR.pure o hd g _ undef fun h=>by rw[h]at hg;cases hg⟩
def gW (P:Program)(E:Env)(F:bK)(σ:Nat->Option aQ)(ρ:List D)(a:Act)(w:World)(g:Option (aI×Bool))(o:Oper)(Q:Exit->Act->World->Prop)(u:List (Nat×aQ)):Prop :=
 (gOn ρ g=true->o.wp P a w (Nx E.ntmps F σ ρ u) Q)/\(gOn ρ g=false->Nx E.ntmps F σ ρ u (a.put o.dst undef) w)
theorem step1 {p:aT}{xs:List aI}{nv n:Nat}(h:aJ cf ρ g nv [.prim p xs n])(hg:gOn ρ g=true) :
  ∃ ds,p.run (xs.map (·.val ρ))=some ds/\ds.length=n/\∀ j d,ds[j]?=some d->(aI.v (nv+j)).val ρ=d:=h.1.1 hg
theorem gJ {p:aT}{xs:List aI}{nv:Nat}(h:aJ cf ρ g nv [.prim p xs 1])(hg:gOn ρ g=true) :
  ∃ d,p.run (xs.map (·.val ρ))=some [d]/\(aI.v nv).val ρ=d:=by
 obtain⟨ds,h1,h2,h3⟩:=step1 h hg
 match ds,h2 with
 |[d],_=>exact⟨d,h1,h3 0 d rfl⟩
theorem Gat {p:aT}{xs:List aI}{nv:Nat}(h:aJ cf ρ g nv [.prim p xs 1])(hg:gOn ρ g=false):(aI.v nv).val ρ=.undef:=h.1.2 hg 0 (by omega)
theorem Fai (o:Oper)(g:Option (aI×Bool))(v:SV):(match o.dst with|some d=>[(kT d,aQ.slot g v)]|none=>[])=eG o g v:=rfl
theorem dO (hR:R E.ntmps F σ ρ a w G)(hd:fQ E.ntmps o){nv:Nat}{p:aT}{xs:List aI}{res:bS}
  (h:(uJ o g nv p xs).eval σ=some res) (hs:aJ cf ρ g nv res.lets)
  (hv:gOn ρ g=true->∀ d,p.run (xs.map (·.val ρ))=some [d]->∃ v,Sc v d/\(execOp a.eval o).run P w=.ok (.value v) w):gW P E F σ ρ a w g o Q res.upd:=by
 simp only[uJ,aC,Vbl]at h;subst h;simp only[Fai];refine⟨fun hg=>?_,fun hg=>Gbw hR hd hg (Gat hs hg)⟩;obtain⟨d,h1,h2⟩:=gJ hs hg;obtain⟨v,h3,h4⟩:=hv hg d h1;exact Lat hR hd hg h4 (h2▸h3)
theorem dX (hR:R E.ntmps F σ ρ a w G)(hd:fQ E.ntmps o){lets:List Step}{sv:SV}{res:bS}{nv:Nat}
  (h:(uK o g lets sv []).eval σ=some res) (hs:aJ cf ρ g nv res.lets)
  (hv:gOn ρ g=true->aJ cf ρ g nv lets->∃ v,dC σ ρ G w sv v/\(execOp a.eval o).run P w=.ok (.value v) w):gW P E F σ ρ a w g o Q res.upd:=by
 simp only[uK,aC,Vbl]at h;subst h;simp only[Fai,Wbo];refine⟨fun hg=>?_,fun hg=>Kb1 hR hd hg⟩;obtain⟨v,h1,h2⟩:=hv hg hs;exact oM h2 ⟨G,hR.pure o hd g _ v fun _=>h1⟩
theorem yE (hR:R E.ntmps F σ ρ a w G)(hd:fQ E.ntmps o){sv:SV}{res:bS}{nv:Nat}
  (h:(Yaf o g nv sv).eval σ=some res) (hs:aJ cf ρ g nv res.lets)
  (hv:gOn ρ g=true->∃ v,dC σ ρ G w sv v/\(execOp a.eval o).run P w=.ok (.value v) w):gW P E F σ ρ a w g o Q res.upd:=by
 unfold Yaf at h;split at h
 ·rename_i z l
  split at h
  ·rename_i x hx
   refine dO hR hd h hs fun hg d hp=>?_
   obtain⟨v,h1,h2⟩:=hv hg;simp only[aT.run,Wbe,Wbu,Vbl,Xbh,and_true]at hp;exact⟨v,hp▸kC hg hx h1,h2⟩
  ·exact dX hR hd h hs fun hg _=>hv hg
 ·exact dX hR hd h hs fun hg _=>hv hg
theorem gG {s:Sem Value}{v:Value}(h:s.run P w=.ok v w'):(do pure (Next.value (<- s)):Sem Next).run P w=.ok (.value v) w':=by
 simp only[Sem.run_bind,h,Result.andThen_ok,Sem.run_pure]
theorem Kab (hR:R E.ntmps F σ ρ a w G)(hd:fQ E.ntmps o){nv:Nat}{x:Operand}(ho:o.op=.move x\/o.op=.assign x){res:bS}
  (h:(do Yaf o g nv (<- Oap E g o.type x):RdM bS).eval σ=some res) (hs:aJ cf ρ g nv res.lets):gW P E F σ ρ a w g o Q res.upd:=by
 simp only[aA,Vbj]at h;obtain⟨sv,h1,h2⟩:=h;refine yE hR hd h2 hs fun hg=>⟨a.eval x,gK hR hg h1,?_⟩
 rcases ho with ho|ho<;>(unfold execOp;rw[ho];rfl)
theorem Sc.int_inv {v:Value}{k:IntKind}{n:Int}(h:Sc v (.int k n)):v=.int k n:=by cases h;rfl
theorem Sc.bool_inv {v:Value}{b:Bool}(h:Sc v (.bool b)):v=.bool b:=by cases h;rfl
theorem Sc.str_inv {v:Value}{l:List UInt8}(h:Sc v (.str l)):v=.string ⟨l.toArray⟩:=by cases h;rfl
theorem Kal (hR:R E.ntmps F σ ρ a w G)(hg:gOn ρ g=true){z:aI×Bool}{t:TypeId}{x:Operand}{y:aI}(h:(Kam E g z t x).eval σ=some y)(hz:gOn ρ (some z)=true):Sc (a.eval x) (y.val ρ):=by
 simp only[Kam,aA,Vbj]at h;obtain⟨l,h1,h2⟩:=h;have hl:=fV hR hg h1;split at h2
 ·rename_i b hb
  simp only[aC,Vbl]at h2;subst h2;exact kC hg hb hl
 ·simp only[aV]at h2
  exact kC hz h2 hl
theorem Vad (hR:R E.ntmps F σ ρ a w G)(hd:fQ E.ntmps o){nv:Nat}{c x y:Operand}(ho:o.op=.pick c x y){res:bS}
  (h:(do
   let c <- rdA E g 0 c
   let a <- Kam E g (c,true) o.type x
   let b <- Kam E g (c,false) o.type y
   uJ o g nv .pick [c,a,b]:RdM bS).eval σ=some res) (hs:aJ cf ρ g nv res.lets):gW P E F σ ρ a w g o Q res.upd:=by
 simp only[aA,Vbj]at h;obtain⟨c',h1,x',h2,y',h3,h4⟩:=h;refine dO hR hd h4 hs fun hg d hp=>?_
 have hc:=jO hR hg h1;simp only[Wbe,Wbu]at hp;generalize hcv:c'.val ρ=cv at hp hc
 cases cv with
 | bool b =>
  simp only[aT.run,Vbl,Xbh,and_true]at hp;have e:a.eval c=.bool b:=hc.bool_inv;refine⟨if b then a.eval x else a.eval y,?_,?_⟩
  ·cases b with
   | true =>
    rw[if_pos rfl]at hp ⊢;exact hp▸Kal hR hg h2 (by simp[gOn,hcv])
   | false =>
    simp only[Vbm,if_false]at hp ⊢;exact hp▸Kal hR hg h3 (by simp[gOn,hcv])
  ·unfold execOp
   simp only[ho,e];simp only[asBool,Sem.run_bind,Sem.run_pure,Result.andThen_ok]
 |_=>simp[aT.run]at hp
theorem toList_mk (l:List UInt8):(⟨l.toArray⟩:ByteArray).toList=l:=by
 rw[ByteArray.toList_eq]
theorem size_mk (l:List UInt8):(⟨l.toArray⟩:ByteArray).size=l.length:=rfl
theorem Abt (x y:List UInt8):(⟨x.toArray⟩:ByteArray)++(⟨y.toArray⟩:ByteArray)=⟨(x++y).toArray⟩:=by
 apply ByteArray.ext;rw[ByteArray.data_append];simp
theorem Van {op:BinOp}{t:TypeId}{k k':IntKind}{x y:Int}{d:D}(h:Ma9 op (.int k x) (.int k' y)=some d) :
    ∃ v,Sc v d/\(binOp op t (.int k x) (.int k' y)).run P w=.ok v w:=by
  unfold Ma9 at h;dsimp only at h
  cases op<;>dsimp only at h<;>first
    | (simp only [Xaq] at h
       split at h
       · cases h
       · rename_i hy
         obtain rfl:=Wbk h;exact⟨_,.int _ _,by simp[binOp,Op.shift,hy]⟩)
    | (split at h
       · rename_i hk
         subst hk;simp only[zK]at h
         first
         | (obtain rfl := Wbk h
            first
            |exact⟨_,.int _ _,by simp[binOp,Op.intArith,Op.intBits]⟩
            |exact⟨_,.bool _,by simp[binOp,Op.intCmp]⟩)
         | (split at h
            · cases h
            · rename_i hy
              obtain rfl:=Wbk h;exact⟨_,.int _ _,by simp[binOp,Op.intDiv,hy]⟩)
         |cases h
       · cases h)
theorem Vam {op:BinOp}{t:TypeId}{x y:List UInt8}{d:D}(h:Ma9 op (.str x) (.str y)=some d) :
    ∃ v,Sc v d/\(binOp op t (.string ⟨x.toArray⟩) (.string ⟨y.toArray⟩)).run P w=.ok v w:=by
  simp only[Ma9,Ib5]at h;have a4n:IntKind.i64.max=9223372036854775807:=by decide
  cases op<;>dsimp only at h<;>first
    | (obtain rfl := Wbk h
       exact⟨_,.bool _,by simp[binOp,Op.stringOp,toList_mk]⟩)
    | (split at h
       · rename_i hl
         obtain rfl:=Wbk h;refine⟨_,.str _,?_⟩;simp only[binOp,Op.stringOp,size_mk,Abt,a4n];rw[if_neg (by omega)];rfl
       · cases h)
    |cases h
theorem Gbn {op:BinOp}{t:TypeId}{vx vy:Value}{dx dy d:D}(hx:Sc vx dx)(hy:Sc vy dy)(h:Ma9 op dx dy=some d) :
  ∃ v,Sc v d/\(binOp op t vx vy).run P w=.ok v w:=by
 cases hx<;>cases hy<;>first|exact Van h|exact Vam h|(simp[Ma9]at h)
theorem Wag {op:BinOp}{t:TypeId}{x y:Operand}{vx vy:Value}{dx dy:D}(hx:Sc vx dx)(hy:Sc vy dy):(eqGuard op t x y vx vy).run P w=.ok () w:=by
 cases hx<;>cases hy<;>(unfold eqGuard;cases op<;>simp)
theorem Na7 (hR:R E.ntmps F σ ρ a w G)(hd:fQ E.ntmps o){nv:Nat}{op:BinOp}{t ty:TypeId}{x y:Operand}(ho:o.op=.binOp op t x y ty){res:bS}
  {x' y':aI} (h1:gOn ρ g=true->Sc (a.eval x) (x'.val ρ)) (h2:gOn ρ g=true->Sc (a.eval y) (y'.val ρ))
  (h:(uJ o g nv (.bin op) [x',y']).eval σ=some res) (hs:aJ cf ρ g nv res.lets):gW P E F σ ρ a w g o Q res.upd:=by
 refine dO hR hd h hs fun hg d hp=>?_
 simp only[Wbe,Wbu,aT.run,Vb4,Xbh,and_true]at hp;obtain⟨d',hp,rfl⟩:=hp;obtain⟨v,h3,h4⟩:=Gbn (P:=P) (w:=w) (t:=t) (h1 hg) (h2 hg) hp;refine⟨v,h3,?_⟩;unfold execOp;simp only[ho];refine gG ?_;rw[Sem.run_bind,Wag (h1 hg) (h2 hg)];exact h4
theorem Cb0 (hR:R E.ntmps F σ ρ a w G)(hd:fQ E.ntmps o){nv:Nat}{op:UnOp}{t:TypeId}{x:Operand}(ho:o.op=.unOp op t x){res:bS}
  (h:(do
   let a <- rdA E g 0 x
   match op with
   |.not=>uJ o g nv .not [a]
   |.neg=>uJ o g nv .neg [a]
   |.xor=>uJ o g nv .inv [a]
   |_=>.no:RdM bS).eval σ=some res) (hs:aJ cf ρ g nv res.lets):gW P E F σ ρ a w g o Q res.upd:=by
 simp only[aA,Vbj]at h;obtain⟨x',h1,h2⟩:=h;split at h2
 ·refine dO hR hd h2 hs fun hg d hp=>?_
  have hx:=jO hR hg h1;simp only[Wbe,Wbu]at hp;generalize x'.val ρ=xv at hp hx;cases xv<;>simp only[aT.run]at hp<;>first|cases hp|skip
  rename_i b;exact⟨_,.bool _,by unfold execOp;simp only[ho,hx.bool_inv];rfl⟩
 ·refine dO hR hd h2 hs fun hg d hp=>?_
  have hx:=jO hR hg h1;simp only[Wbe,Wbu]at hp;generalize x'.val ρ=xv at hp hx;cases xv<;>simp only[aT.run]at hp<;>first|cases hp|skip
  exact⟨_,.int _ _,by unfold execOp;simp only[ho,hx.int_inv];rfl⟩
 ·refine dO hR hd h2 hs fun hg d hp=>?_
  have hx:=jO hR hg h1;simp only[Wbe,Wbu]at hp;generalize x'.val ρ=xv at hp hx;cases xv<;>simp only[aT.run,zK,Wb5,Vbl,Xbh,and_true]at hp<;>first|cases hp|skip
  exact⟨_,.int _ _,by unfold execOp;simp only[ho,hx.int_inv];rfl⟩
 ·cases h2
theorem Vaf (hR:R E.ntmps F σ ρ a w G)(hd:fQ E.ntmps o)(hti:vV P E.ti){nv:Nat}{src dst:TypeId}{x:Operand}(ho:o.op=.convert src dst x){res:bS}{s d:TI}{k:IntKind}
  (ke:E.ti src=some s) (gR:s.ik.isSome=true) (im:E.ti dst=some d) (hk:d.ik=some k) {x':aI} (h1:(rdA E g src x).eval σ=some x')
  (h:(uJ o g nv (.conv k) [x']).eval σ=some res) (hs:aJ cf ρ g nv res.lets):gW P E F σ ρ a w g o Q res.upd:=by
 refine dO hR hd h hs fun hg e hp=>?_
 have hx:=jO hR hg h1;simp only[Wbe,Wbu]at hp;generalize x'.val ρ=xv at hp hx;cases xv<;>simp only[aT.run]at hp<;>first|cases hp|skip
 rename_i k0 n;obtain⟨i1,u1,f1⟩:=aW (hti.ok _ _ ke);obtain⟨i2,u2,f2⟩:=aW (hti.ok _ _ im)
 have e2:u2=.int k:=by
  have:=f2.ik.symm.trans hk;unfold Obp at this;split at this
  ·rw[Wbk this]
  ·cases this
 subst e2;refine⟨_,.int _ _,?_⟩;unfold execOp;simp only[ho,hx.int_inv];refine gG ?_;simp only[convert,Sem.run_bind,run_underlying f1.und,run_underlying f2.und,Result.andThen_ok];rfl
end
section
variable {P:Program} {E:Env} {F:bK} {σ:Nat->Option aQ} {ρ:List D} {a:Act} {w w':World} {G:Gh} {g:Option (aI×Bool)} {o:Oper} {cf:Nat->List D->Option (List D)} {Q:Exit->Act->World->Prop} {next:Act->World->Prop}
def Mad (σ:Nat->Option aQ)(r k:Nat):Prop:=∃ m,zI σ r k m
theorem jC:∀ {deps ds:List (Nat×Nat)},(wJ deps).eval σ=some ds ->
  (∀ z∈deps,mU σ z.1 z.2)/\(∀ z∈ds,z∈deps/\Mad σ z.1 z.2)/\∀ z∈deps,z∈ds\/∃ x m,σ (kR z.1)=some (.root x m z.2 .frozen)
 | [], ds, h => by
  simp only[wJ,aC,Vbl]at h;subst h;simp
 | (r, k) :: rest, ds, h => by
  simp only[wJ,aA,aR,Vbs]at h;split at h
  ·rename_i x m cy st hk
   simp only[aA,Vbj]at h;obtain⟨ie,h1,h2⟩:=h;obtain⟨h3,h4,h5⟩:=jC h1;split at h2
   ·rw[gZ]at h2
    split at h2
    ·rename_i e
     simp only[Wbl]at e;simp only[aC,Vbl]at h2;subst h2 e;refine⟨fun z hz=>?_,fun z hz=>⟨Vb1 _ (h4 z hz).1,(h4 z hz).2⟩,fun z hz=>?_⟩
     ·rcases Vbu.1 hz with rfl|hz
      ·exact⟨x,m,.frozen,hk,.inr rfl⟩
      ·exact h3 z hz
     ·rcases Vbu.1 hz with rfl|hz
      ·exact .inr ⟨x,m,hk⟩
      ·exact h5 z hz
    ·cases h2
   ·rw[gZ]at h2
    split at h2
    ·rename_i e
     simp only[Wbl]at e;simp only[aC,Vbl]at h2;subst h2 e;refine⟨fun z hz=>?_,fun z hz=>?_,fun z hz=>?_⟩
     ·rcases Vbu.1 hz with rfl|hz
      ·exact⟨x,m,.live,hk,.inl rfl⟩
      ·exact h3 z hz
     ·rcases Vbu.1 hz with rfl|hz
      ·exact⟨Vb7,m,x,hk⟩
      ·exact⟨Vb1 _ (h4 z hz).1,(h4 z hz).2⟩
     ·rcases Vbu.1 hz with rfl|hz
      ·exact .inl Vb7
      ·exact (h5 z hz).imp (Vb1 _) id
    ·cases h2
   ·cases h2
  ·cases h
theorem Rd.drop (hR:R E.ntmps F σ ρ a w G){deps ds:List (Nat×Nat)}(h:∀ z∈deps,z∈ds\/∃ x m,σ (kR z.1)=some (.root x m z.2 .frozen)){v:Value}{d:D}
  (hv:Rd (allow G deps) w v d):Rd (allow G ds) w v d:=by
 refine hv.mono fun b hb=>⟨?_,rfl⟩
 rcases hb with hb|⟨r,k,p,hm,hb⟩
 ·exact .inl hb
 ·rcases h (r,k) hm with h1|⟨x,m,h1⟩
  ·exact .inr ⟨r,k,p,h1,hb⟩
  ·exact absurd hb ((hR.root h1).2 b p)
def vQ (σ:Nat->Option aQ)(ρ:List D)(G:Gh)(w:World)(s:SlR)(v:Value):Prop :=
 match s.own with
 |none=>True
 | some (r, k, m, p) => s.deps = [(r, k)] /\ zI σ r k m /\ match p with
  |.no=>True
  |.view=>Rp G.own w r [] m v (s.x.val ρ)
  |.suf sz lo=>Fbx (G.hdr r) v sz (lN ρ lo)
  |.path q=>q.length<=m/\Rp G.own w r (bB ρ q) (m-q.length) v (s.x.val ρ)/\zO G.own w r [] (G.hdr r) (bB ρ q) v
structure Wav (σ:Nat->Option aQ) (ρ:List D) (G:Gh) (w:World) (s:SlR) (v:Value):Prop where
 rd:Rd (allow G s.deps) w v (s.x.val ρ)
 live:∀ z∈s.deps,Mad σ z.1 z.2
 nie:s.nie=true->∀ z,s.x.val ρ=.rows z []->v=.slice none 0 0
 own:vQ σ ρ G w s v
theorem eH (hR:R E.ntmps F σ ρ a w G){l:aP}{s:SlR}(h:(yH l).eval σ=some s){v:Value}(hl:aB σ ρ G w l v):Wav σ ρ G w s v:=by
 unfold yH at h;split at h
 ·rename_i r
  simp only[aB]at hl;simp only[aA,aR,Vbs]at h;split at h
  ·rename_i x m cy hk
   simp only[aC,Vbl]at h;subst h;have hr:=hR.root hk;simp only[bW]at hr;rw[<- hl.1]at hr;refine⟨hr.rd.mono fun b hb=>⟨hb.imp id fun ⟨q,hq⟩=>⟨r,cy,q,by simp,hq⟩,rfl⟩,?_,by simp,?_⟩
   ·intro z hz
    simp only[Vbp]at hz;subst hz;exact⟨m,x,hk⟩
   ·refine⟨rfl,⟨x,hk⟩,Nat.zero_le _,by simpa[bB] using hr,?_⟩
    simp only[bB,Wbu,zO];exact hl.1
  ·rename_i x m cy hk
   simp only[aC,Vbl]at h;subst h;have hr:=(hR.root hk).1;rw[<- hl.1]at hr;exact⟨hr.mono fun b hb=>⟨.inl hb,rfl⟩,by simp,by simp,trivial⟩
  ·cases h
 ·rename_i deps p nie x
  simp only[aB]at hl;simp only[aA,Vbj]at h;obtain⟨ds,h1,h2⟩:=h;obtain⟨h3,h4,h5⟩:=jC h1;obtain⟨h6,h7,h8⟩:=hl.2 h3;have h9:=h6.drop hR h5;split at h2
  ·simp only[aC,Vbl]at h2
   subst h2;exact⟨h9,fun z hz=>(h4 z hz).2,h7,trivial⟩
  ·rename_i r k z cU
   simp only[aA,aR,Vbs]at h2;split at h2
   ·rename_i x' m cy hk
    simp only[aC,Vbl]at h2;subst h2;have hz:=(h4 z (by simp)).1;simp only[Vbp]at hz;subst hz;have iS:Mad σ r k:=(h4 (r,k) (by simp)).2;obtain⟨m',x'',jx⟩:=iS;rw[hk]at jx;obtain⟨rfl,rfl,rfl⟩:x'=x''/\m=m'/\cy=k:=by injection jx with jx;injection jx with a b c d;exact⟨a,b,c⟩
    refine⟨h9,fun z hz=>(h4 z hz).2,h7,rfl,⟨x',hk⟩,?_⟩
    cases p with
    |no=>trivial
    |view=>exact h8 r cy m rfl ⟨x',hk⟩
    |path q=>exact h8 r cy m rfl ⟨x',hk⟩
    |suf sz lo=>exact h8 r cy m rfl ⟨x',hk⟩
   ·cases h2
  ·simp only[aC,Vbl]at h2
   subst h2;exact⟨h9,fun z hz=>(h4 z hz).2,h7,trivial⟩
 ·cases h
theorem Rd.inv {ok:Nat->Prop}{v:Value}{sz:Nat}{rs:List (List D)}(h:Rd ok w v (.rows sz rs)) :
  ∃ (A:Option Addr) (a:Addr) (n c:Nat) (vs:Nat->Nat->Value),v=.slice A n c/\rs.length=n/\n<=c/\(n=0\/A=some a)/\(∀ r∈rs,r.length=sz) /\
   (∀ i r,rs[i]?=some r->∀ j d,r[j]?=some d->ok a.block/\w.cell? (a.add (i*sz+j))=some (vs i j)) /\
   (∀ i r,rs[i]?=some r->∀ j d,r[j]?=some d->Rd ok w (vs i j) d):=by
 cases h with
 |sc h=>cases h
 |rows A a n c sz rs vs hn hc hA dh cE cR=>exact⟨A,a,n,c,vs,rfl,hn,hc,hA,dh,cE,cR⟩
theorem rJ {t:TypeId}{i:TI}{info:TypeInfo}{u:TypeDesc}{e:Nat}(f:dF P t i info u)(h:i.elem=some e):u=.slice e:=by
 have:=f.elem.symm.trans h;unfold Zaw at this;split at this
 ·rw[Wbk this]
 ·cases this
theorem Iad {t:TypeId}{i:TI}{info:TypeInfo}{u:TypeDesc}(f:dF P t i info u)(h:i.elem.isSome=true):∃ e,u=.slice e:=by
 cases e:i.elem with
 |none=>rw[e]at h;cases h
 |some e'=>exact⟨e',rJ f e⟩
theorem Dap {t:TypeId}{i:TI}{info:TypeInfo}{u:TypeDesc}(f:dF P t i info u)(h:i.isStr=true):u=.string:=by
 have:Yay u=true:=by rw[<- h,f.eq];rfl
 unfold Yay at this;split at this
 ·rfl
 ·cases this
theorem Mau {t:TypeId}{i:TI}{info:TypeInfo}{u:TypeDesc}(f:dF P t i info u){k off ft:Nat}(h:i.flds[k]?=some (off,ft)) :
  ∃ fs fd,u=.struct fs/\fs[k]?=some fd/\fd.offset=off/\fd.type=ft:=by
 rw[f.flds]at h;unfold Zak at h;split at h
 ·rename_i fs
  simp only[Wbs,Vb4,Wbd]at h;obtain⟨fd,h1,h2,h3⟩:=h;exact⟨fs,fd,rfl,by simpa using h1,h2,h3⟩
 ·simp at h
theorem Nab {α:Type}{as:Array α}{x:α}(h:as.toList=[x]):as=#[x]:=by
 apply Zbc;simpa using h
theorem Ebw {α:Type}{as:Array α}{x y:α}(h:as.toList=[x,y]):as=#[x,y]:=by
 apply Zbc;simpa using h
theorem mY {b:Builtin}{args:Array Operand}{argTypes:Array TypeId}{s:Sem Value}{v:Value}(ho:o.op=.call { callee:=.builtin b,args,argTypes })
  (hb:∀ consts,builtin b argTypes o.type consts (args.map a.eval)=(do pure (.value (<- s)))) (h:s.run P w=.ok v w'):(execOp a.eval o).run P w=.ok (.value v) w':=by
 unfold execOp;simp only[ho,resolve,Sem.run_bind,Sem.run_pure,Result.andThen_ok,invoke,hb];rw[h];rfl
theorem Ray {α γ:Type}(f:α->γ)(x:α):Array.map f #[x]=#[f x]:=by simp
theorem Gbz {α γ:Type}(f:α->γ)(x y:α):Array.map f #[x,y]=#[f x,f y]:=by simp
theorem Ran {t ty:TypeId}{argTypes:Array TypeId}(ht:argTypes[0]?=some t)(hu:P.underlying t=some .string)(s:ByteArray) :
  (Builtin.len_ argTypes ty #[.string s]).run P w=.ok (.int .i64 s.size) w:=by
 simp[Builtin.len_,ht,run_underlying hu,goInt]
theorem run_len_slice {t ty e:TypeId}{argTypes:Array TypeId}(ht:argTypes[0]?=some t)(hu:P.underlying t=some (.slice e))(A:Option Addr)(n c:Nat) :
  (Builtin.len_ argTypes ty #[.slice A n c]).run P w=.ok (.int .i64 n) w:=by
 simp[Builtin.len_,ht,run_underlying hu,goInt]
theorem Xan (hR:R E.ntmps F σ ρ a w G)(hd:fQ E.ntmps o)(hti:vV P E.ti){nv:Nat}{args:Array Operand}{argTypes:Array TypeId}
  (ho:o.op=.call { callee:=.builtin .len,args,argTypes }) {x:Operand} (hx:args.toList=[x]) {t:TypeId} (ht:argTypes[0]?=some t) {ti:TI} (hi:E.ti t=some ti) {res:bS}
  (h:(do
   let l <- rdL E g t x
   match vK g l with
   | some a => do
    bQ ti.isStr
    uJ o g nv .slen [a]
   | none => do
    bQ ti.elem.isSome
    let s <- yH l
    uJ o g nv .len [s.x]:RdM bS).eval σ=some res) (hs:aJ cf ρ g nv res.lets):gW P E F σ ρ a w g o Q res.upd:=by
 obtain⟨info,u,f⟩:=aW (hti.ok _ _ hi);simp only[aA,Vbj]at h;obtain⟨l,h1,h2⟩:=h;split at h2
 ·rename_i y hy
  simp only[aA,aH,Vbj]at h2;obtain⟨_,h3,h4⟩:=h2;split at h3
  ·rename_i a4q
   obtain rfl:=Dap f a4q;refine dO hR hd h4 hs fun hg d hp=>?_
   have hv:=kC hg hy (fV hR hg h1);simp only[Wbe,Wbu]at hp;generalize y.val ρ=yv at hp hv;cases yv<;>simp only[aT.run]at hp<;>first|cases hp|skip
   rename_i s;refine⟨_,.int _ _,mY ho (fun _=>rfl) ?_⟩;have e:=Ran (P:=P) (w:=w) (ty:=o.type) ht f.und ⟨s.toArray⟩;rw[<- hv.str_inv]at e;rw[Nab hx,Ray];exact e
  ·cases h3
 ·rename_i hy
  simp only[aA,aH,Vbj]at h2;obtain⟨_,h3,s,h4,h5⟩:=h2;split at h3
  ·rename_i hel
   obtain⟨e,rfl⟩:=Iad f hel;refine dO hR hd h5 hs fun hg d hp=>?_
   have hv:=(eH hR h4 (fV hR hg h1)).rd;simp only[Wbe,Wbu]at hp;generalize s.x.val ρ=yv at hp hv;cases yv<;>simp only[aT.run]at hp<;>first|cases hp|skip
   rename_i sz rs;obtain⟨A,b,n,c,vs,e1,e2,-⟩:=hv.inv;refine⟨_,.int _ _,mY ho (fun _=>rfl) ?_⟩;have e:=run_len_slice (P:=P) (w:=w) (ty:=o.type) ht f.und A n c;rw[<- e1]at e;rw[Nab hx,e2,Ray];exact e
  ·cases h3
theorem aD.len {ls:List aP}:∀ {vs:List Value},aD σ ρ G w ls vs->vs.length=ls.length:=by
 induction ls with
 |nil=>intro vs h;simp only[aD]at h;simp[h]
 | cons l ls ih =>
  intro vs h;simp only[aD]at h;obtain⟨u,us,rfl,_,h2⟩:=h;simp[ih h2]
theorem aD.get {ls:List aP}:∀ {vs:List Value} {i:Nat} {l:aP},aD σ ρ G w ls vs->ls[i]?=some l->∃ v,vs[i]?=some v/\aB σ ρ G w l v:=by
 induction ls with
 |nil=>intro vs i l h hi;simp at hi
 | cons l0 ls ih =>
  intro vs i l h hi;simp only[aD]at h;obtain⟨u,us,rfl,h1,h2⟩:=h
  cases i with
  | zero =>
   simp only[Vbv,Vbl]at hi;subst hi;exact⟨u,rfl,h1⟩
  | succ i =>
   simp only[Wbz]at hi ⊢;exact ih h2 hi
theorem aD.of_get {ls:List aP}:∀ {vs:List Value},vs.length=ls.length->(∀ (i:Nat) (l:aP) (v:Value),ls[i]?=some l->vs[i]?=some v->aB σ ρ G w l v)->aD σ ρ G w ls vs:=by
 induction ls with
 |nil=>intro vs h _;simp only[aD];exact Xbi h
 | cons l0 ls ih =>
  intro vs h hg
  cases vs with
  |nil=>simp at h
  | cons u us =>
   simp only[aD];exact⟨u,us,rfl,hg 0 l0 u rfl rfl,ih (by simpa using h) fun i l v hi hv=>hg (i+1) l v hi hv⟩
theorem aD.drop {ls:List aP}{vs:List Value}(k:Nat)(h:aD σ ρ G w ls vs):aD σ ρ G w (ls.drop k) (vs.drop k):=by
 refine .of_get (by simp[h.len]) fun i l v hi hv=>?_
 rw[Wbt]at hi hv;obtain⟨v',h1,h2⟩:=h.get hi;rw[h1]at hv;exact Wbk hv▸h2
theorem aD.take {ls:List aP}{vs:List Value}(k:Nat)(h:aD σ ρ G w ls vs):aD σ ρ G w (ls.take k) (vs.take k):=by
 refine .of_get (by simp[h.len]) fun i l v hi hv=>?_
 rw[Wbw]at hi hv;split at hi
 ·rename_i hk
  rw[if_pos hk]at hv;obtain⟨v',h1,h2⟩:=h.get hi;rw[h1]at hv;exact Wbk hv▸h2
 ·cases hi
theorem tZ {agg:Bool}{ls:List aP}{sv:SV}(h:Tad agg ls=some sv){vs:List Value}(hl:aD σ ρ G w ls vs){v:Value}
  (hv:if agg=true then v=.agg vs.toArray else vs=[v]):dC σ ρ G w sv v:=by
 unfold Tad at h
 cases agg with
 | true =>
  simp only[cond_true,Vbl]at h;subst h;exact⟨vs,by simpa using hv,hl⟩
 | false =>
  simp only[cond_false]at h;split at h
  ·simp only[Vbl]at h
   subst h;simp only[Vbm,if_false]at hv;subst hv;simp only[aD]at hl;obtain⟨u,us,e,h1,-⟩:=hl;obtain⟨rfl,-⟩:=Zbd e;exact h1
  ·cases h
theorem Rac (hR:R E.ntmps F σ ρ a w G)(hd:fQ E.ntmps o)(hti:vV P E.ti){nv:Nat}{t:TypeId}{x:Operand}{k:Nat}(ho:o.op=.field t x k){ti fi:TI}{off ft:Nat}
  (hi:E.ti t=some ti) (hf:ti.flds[k]?=some (off,ft)) (hfi:E.ti ft=some fi) {res:bS}
  (h:(do
   match <- Oap E g t x with
   | .agg ls => do
    bQ (Nat.ble (off+fi.size) ls.length&&Nat.beq ls.length ti.size)
    match Tad fi.agg ((ls.drop off).take fi.size) with
    |some v=>Yaf o g nv v
    |none=>.no
   |_=>.no:RdM bS).eval σ=some res) (hs:aJ cf ρ g nv res.lets):gW P E F σ ρ a w g o Q res.upd:=by
 obtain⟨info,u,f⟩:=aW (hti.ok _ _ hi);obtain⟨jt,u',f'⟩:=aW (hti.ok _ _ hfi);obtain⟨fs,fd,rfl,h1,rfl,rfl⟩:=Mau f hf;simp only[aA,Vbj]at h;obtain⟨sv,h2,h3⟩:=h;split at h3
 ·rename_i ls
  simp only[aA,aH,Vbj]at h3;obtain⟨_,h4,h5⟩:=h3;split at h4
  ·rename_i hb
   simp only[Vbk,Wb6]at hb;split at h5
   ·rename_i sv' gS
    refine yE hR hd h5 hs fun hg=>?_
    obtain⟨vs,e,hl⟩:=gK hR hg h2;have km:=(hl.drop fd.offset).take fi.size;have hlen:=hl.len
    have cC:∀ v,(if fi.agg=true then v=.agg ((vs.drop fd.offset).take fi.size).toArray else (vs.drop fd.offset).take fi.size=[v]) ->
      (execOp a.eval o).run P w=.ok (.value v) w:=by
     intro v hv;unfold execOp;simp only[ho];refine gG ?_;simp only[Instr.field,Sem.run_bind,run_underlying f.und,Result.andThen_ok,h1,e,asAgg,Sem.run_pure,part,f'.isAgg,f'.sizeOf]
     cases ui:fi.agg with
     | true =>
      rw[ui]at hv;simp only[if_true]at hv ⊢;rw[hv];simp only[Sem.run_bind,f'.sizeOf,Result.andThen_ok,Sem.run_pure];congr 2;apply Zbc;simp[List.extract_eq_take_drop]
     | false =>
      rw[ui]at hv;simp only[Vbm,if_false]at hv ⊢
      have:vs[fd.offset]?=some v:=by
       have h0:((vs.drop fd.offset).take fi.size)[0]?=some v:=by rw[hv];rfl
       rw[Wbw]at h0;split at h0
       ·rw[Wbt]at h0;simpa using h0
       ·cases h0
      simp[this]
    cases ui:fi.agg with
    | true =>
     refine⟨.agg ((vs.drop fd.offset).take fi.size).toArray,tZ gS km (by rw[ui];rfl),cC _ (by rw[ui];rfl)⟩
    | false =>
     have kg:((ls.drop fd.offset).take fi.size).length=1:=by
      rw[ui]at gS;unfold Tad at gS;simp only[cond_false]at gS;split at gS
      ·rename_i l kg;rw[kg];rfl
      ·cases gS
     have ug:((vs.drop fd.offset).take fi.size).length=1:=by rw[km.len,kg]
     obtain⟨v,hv⟩:=List.length_eq_one_iff.1 ug;exact⟨v,tZ gS km (by rw[ui];exact hv),cC _ (by rw[ui];exact hv)⟩
   ·cases h5
  ·cases h4
 ·cases h3
theorem iM.get:∀ {ts:List (Bool×List aP)} {us:List Value} {i:Nat} {ag:Bool} {ls:List aP},iM σ ρ G w ts us->ts[i]?=some (ag,ls) ->
  ∃ u vs,us[i]?=some u/\aD σ ρ G w ls vs/\(if ag=true then u=.agg vs.toArray else vs=[u])
 |[],_,_,_,_,_,h=>by simp at h
 | (a0, l0) :: r, us, i, ag, ls, ht, h => by
  obtain⟨u,dj,vs,rfl,h1,h2,h3⟩:=ht
  cases i with
  | zero =>
   simp only[Vbv,Vbl,Wbd]at h;obtain⟨rfl,rfl⟩:=h;exact⟨u,vs,rfl,h1,h2⟩
  | succ i =>
   simp only[Wbz]at h ⊢;exact iM.get h3 h
theorem Las (hR:R E.ntmps F σ ρ a w G)(hd:fQ E.ntmps o){nv:Nat}{x:Operand}{i:Nat}(ho:o.op=.extract x i){res:bS}
  (h:(do
   match <- Oap E g 0 x with
   | .tup vs => match vs[i]? with
    | some (a, ls) => match Tad a ls with
     |some v=>Yaf o g nv v
     |none=>.no
    |none=>.no
   |_=>.no:RdM bS).eval σ=some res) (hs:aJ cf ρ g nv res.lets):gW P E F σ ρ a w g o Q res.upd:=by
 simp only[aA,Vbj]at h;obtain⟨sv,h2,h3⟩:=h;split at h3
 ·rename_i ts
  split at h3
  ·rename_i ag ls hi
   split at h3
   ·rename_i v hv
    refine yE hR hd h3 hs fun hg=>?_
    obtain⟨us,e,ht⟩:=gK hR hg h2;obtain⟨u,vs,h4,h5,h6⟩:=ht.get hi;refine⟨u,tZ hv h5 h6,?_⟩;unfold execOp;simp only[ho];refine gG ?_;simp[Instr.extract,e,h4]
   ·cases h3
  ·cases h3
 ·cases h3
theorem Gay (hR:R E.ntmps F σ ρ a w G)(hd:fQ E.ntmps o)(hti:vV P E.ti){nv:Nat}{t:TypeId}{x:Operand}{k:Nat}(ho:o.op=.fieldAddr t x k){ti fi:TI}{off ft:Nat}
  (hi:E.ti t=some ti) (hf:ti.flds[k]?=some (off,ft)) (hfi:E.ti ft=some fi) (nu:0<fi.size) {res:bS}
  (h:(do Qa1 o g off (<- rdL E g 0 x):RdM bS).eval σ=some res) (hs:aJ cf ρ g nv res.lets):gW P E F σ ρ a w g o Q res.upd:=by
 obtain⟨info,u,f⟩:=aW (hti.ok _ _ hi);obtain⟨jt,u',f'⟩:=aW (hti.ok _ _ hfi);obtain⟨fs,fd,rfl,h1,rfl,rfl⟩:=Mau f hf;simp only[aA,Vbj]at h;obtain⟨l,h2,h3⟩:=h
 have cC:∀ b:Addr,a.eval x=.pointer (some b)->(execOp a.eval o).run P w=.ok (.value (.pointer (some (b.add fd.offset)))) w:=by
  intro b hb;unfold execOp;simp only[ho];refine gG ?_;have cU:¬ fi.size=0:=by omega
  simp only[Instr.fieldAt,Sem.run_bind,run_underlying f.und,Result.andThen_ok,h1,Instr.sureAddr,hb,Sem.run_pure,fieldPlace,f'.sizeOf,if_neg cU]
 unfold Qa1 at h3;split at h3
 ·rename_i b off
  refine dX hR hd h3 hs fun hg _=>?_
  have hl:=fV hR hg h2;simp only[aB]at hl;refine⟨_,?_,cC _ hl.1⟩;simp only[dC,aB];exact⟨by rw[add_add],hl.2⟩
 ·rename_i l' sz i off
  refine dX hR hd h3 hs fun hg _=>?_
  have hl:=fV hR hg h2;simp only[aB]at hl;obtain⟨b,n,c,k',iv,h4,h5,h6,h7,h8⟩:=hl;refine⟨_,?_,cC _ h8⟩;simp only[dC,aB];exact⟨b,n,c,k',iv,h4,h5,h6,h7,by rw[add_add,Vb8]⟩
 ·cases h3
end
section
variable {P:Program} {E:Env} {F:bK} {σ:Nat->Option aQ} {ρ:List D} {a:Act} {w w':World} {G:Gh} {g:Option (aI×Bool)} {o:Oper} {cf:Nat->List D->Option (List D)} {Q:Exit->Act->World->Prop} {next:Act->World->Prop}
theorem Gax (hR:R E.ntmps F σ ρ a w G)(hd:fQ E.ntmps o)(hti:vV P E.ti){nv:Nat}{t:TypeId}{x i:Operand}(ho:o.op=.indexAddr t x i){ti ei:TI}{e:Nat}
  (hi:E.ti t=some ti) (he:ti.elem=some e) (tn:E.ti e=some ei) {res:bS}
  (h:(do
   let l <- rdL E g t x
   let s <- yH l
   let a <- rdA E g 0 i
   bQ (Nat.blt 0 ei.size)
   uK o g [.prim .inb [s.x,a] 0] (.one (.pe l ei.size a 0)) []:RdM bS).eval σ=some res) (hs:aJ cf ρ g nv res.lets):gW P E F σ ρ a w g o Q res.upd:=by
 obtain⟨info,u,f⟩:=aW (hti.ok _ _ hi);obtain⟨jt,u',f'⟩:=aW (hti.ok _ _ tn);obtain rfl:=rJ f he;simp only[aA,Vbj,aH]at h;obtain⟨l,h1,s,h2,y,h3,_,h4,h5⟩:=h;refine dX hR hd h5 hs fun hg cA=>?_
 obtain⟨ds,hp,-,-⟩:=step1 cA hg;have hl:=fV hR hg h1;have gC:=(eH hR h2 hl).rd;have hy:=jO hR hg h3;simp only[Wbe,Wbu]at hp;generalize hxv:s.x.val ρ=xv at hp gC;generalize hyv:y.val ρ=yv at hp hy;cases xv<;>cases yv<;>simp only[aT.run]at hp<;>first|cases hp|skip
 rename_i sz rs k iv;split at hp
 ·rename_i hb
  obtain⟨A,b,n,c,vs,e1,e2,e3,e4,-⟩:=gC.inv;have hn:n≠0:=by omega
  have hA:A=some b:=e4.resolve_left hn;subst hA;refine⟨.pointer (some (b.add (iv.toNat*ei.size+0))),?_,?_⟩
  ·simp only[dC,aB]
   exact⟨b,n,c,k,iv,e1▸hl,hyv,hb.1,by omega,rfl⟩
  ·unfold execOp
   simp only[ho];refine gG ?_;have bj:(0:Int)<=iv/\iv<(n:Int):=⟨hb.1,by rw[<- e2];exact hb.2⟩;simp only[Instr.indexAt,hy.int_inv,asIntOf,Sem.run_bind,Sem.run_pure,Result.andThen_ok,run_underlying f.und,e1,if_pos bj,f'.sizeOf,Nat.add_zero]
 ·cases hp
theorem Rab (hR:R E.ntmps F σ ρ a w G)(hd:fQ E.ntmps o)(hti:vV P E.ti){nv:Nat}{t:TypeId}{x i:Operand}(ho:o.op=.index t x i){ti:TI}
  (hi:E.ti t=some ti) {res:bS}
  (h:(do
   bQ ti.isStr
   let s <- rdA E g t x
   let a <- rdA E g 0 i
   uJ o g nv .sidx [s,a]:RdM bS).eval σ=some res) (hs:aJ cf ρ g nv res.lets):gW P E F σ ρ a w g o Q res.upd:=by
 obtain⟨info,u,f⟩:=aW (hti.ok _ _ hi);simp only[aA,Vbj,aH]at h;obtain⟨_,h0,x',h1,y,h2,h3⟩:=h;split at h0
 ·rename_i cA
  obtain rfl:=Dap f cA;refine dO hR hd h3 hs fun hg d hp=>?_
  have hx:=jO hR hg h1;have hy:=jO hR hg h2;simp only[Wbe,Wbu]at hp;generalize x'.val ρ=xv at hp hx;generalize y.val ρ=yv at hp hy;cases xv<;>cases yv<;>simp only[aT.run]at hp<;>first|cases hp|skip
  rename_i s k iv;split at hp
  ·rename_i h0i
   split at hp
   ·rename_i b hb
    simp only[Vbl,Xbh,and_true]at hp;subst hp;refine⟨_,.int _ _,?_⟩;unfold execOp;simp only[ho];refine gG ?_
    have e:(⟨s.toArray⟩:ByteArray)[iv.toNat]?=some b:=by
     have:iv.toNat<s.length:=by
      rcases Wbc iv.toNat s.length with h|h
      ·exact h
      ·rw[Xbx h]at hb;cases hb
     rw[getElem?_pos (⟨s.toArray⟩:ByteArray) iv.toNat (by simpa[ByteArray.size] using this)];rw[Vbq this]at hb;rw[<- hb];rfl
    simp only[Instr.index,hy.int_inv,hx.str_inv,asIntOf,Sem.run_bind,Sem.run_pure,Result.andThen_ok,run_underlying f.und,if_pos h0i,e]
   ·cases hp
  ·cases hp
 ·cases h0
theorem yI (hR:R E.ntmps F σ ρ a w G)(hg:gOn ρ g=true):∀ {xs:List Operand} {ts:List TypeId} {ov:List SV},(zW E g xs ts).eval σ=some ov ->
  ov.length=xs.length/\∀ (i:Nat) (sv:SV) (x:Operand),ov[i]?=some sv->xs[i]?=some x->dC σ ρ G w sv (a.eval x)
 | [], ts, ov, h => by
  simp only[zW,aC,Vbl]at h;subst h;simp
 | x :: xs, ts, ov, h => by
  simp only[zW,aA,Vbj,aC,Vbl]at h;obtain⟨sv,h1,l,h2,rfl⟩:=h;obtain⟨h3,h4⟩:=yI hR hg h2;refine⟨by simp[h3],fun i sv' x' hi hx=>?_⟩
  cases i with
  | zero =>
   simp only[Vbv,Vbl]at hi hx;subst hi hx;exact gK hR hg h1
  | succ i =>
   simp only[Wbz]at hi hx;exact h4 i sv' x' hi hx
theorem Daw:∀ {ov:List SV} {ls:List aP},vL ov=some ls->ls.length=ov.length/\∀ (i:Nat) (l:aP),ls[i]?=some l->ov[i]?=some (.one l)
 | [], ls, h => by
  simp only[vL,Vbl]at h;subst h;simp
 | .one l :: r, ls, h => by
  simp only[vL,Vb4]at h;obtain⟨m,h1,rfl⟩:=h;obtain⟨h2,h3⟩:=Daw h1;refine⟨by simp[h2],fun i l' hi=>?_⟩
  cases i with
  |zero=>simp only[Vbv,Vbl]at hi ⊢;rw[hi]
  |succ i=>simp only[Wbz]at hi ⊢;exact h3 i l' hi
 |.dead::_,_,h=>by simp[vL]at h
 |.agg _::_,_,h=>by simp[vL]at h
 |.tup _::_,_,h=>by simp[vL]at h
theorem Jag (hR:R E.ntmps F σ ρ a w G)(hd:fQ E.ntmps o){nv:Nat}{fn:FuncId}{first fS:Array Operand}(ho:o.op=.makeFunc (.func fn) first fS){res:bS}
  (h:(do
   bQ first.isEmpty
   let vs <- zW E g fS.toList []
   let ls <- oP (vL vs)
   uK o g [] (.one (.clo fn ls)) []:RdM bS).eval σ=some res) (hs:aJ cf ρ g nv res.lets):gW P E F σ ρ a w g o Q res.upd:=by
 simp only[aA,Vbj,aH,aV]at h;obtain⟨_,h0,ov,h1,ls,wg,h2⟩:=h;split at h0
 ·rename_i hf
  refine dX hR hd h2 hs fun hg _=>⟨.func (.func fn) #[] (fS.map a.eval),?_,?_⟩
  ·obtain⟨h3,h4⟩:=yI hR hg h1
   simp only[dC,aB];obtain⟨h5,h6⟩:=Daw wg;refine⟨fS.toList.map a.eval,by rw[<- Array.toList_map,Array.toArray_toList],.of_get (by simp[h3,h5]) fun i l v hi hv=>?_⟩;simp only[Wbs,Vb4]at hv;obtain⟨x,hv,rfl⟩:=hv;exact h4 i _ x (h6 i l hi) hv
  ·unfold execOp
   simp only[ho];refine gG ?_;have:first=#[]:=by simpa using hf
   subst this;simp[Instr.makeFunc]
 ·cases h0
theorem Jaf (hR:R E.ntmps F σ ρ a w G)(hd:fQ E.ntmps o){nv:Nat}{x:Operand}(ho:o.op=.nilCheck x){res:bS}
  (h:(do
   match <- rdL E g 0 x with
   | .rp deps sz y => do
    let ds <- wJ deps
    uK o g [.prim .ne [y] 0] (.one (.pe (.sn ds .no false y) sz (.c (.int .i64 0)) 0)) []
   |.px b off=>uK o g [] (.one (.px b off)) []
   |.pe l sz i off=>uK o g [] (.one (.pe l sz i off)) []
   |.clo f cs=>uK o g [] (.one (.clo f cs)) []
   |.pn=>uK o g [.prim .ne [.c (.rows 0 [])] 0] (.one (.pe (.sn [] .no false (.c (.rows 0 []))) 0 (.c (.int .i64 0)) 0)) []
   |_=>.no:RdM bS).eval σ=some res) (hs:aJ cf ρ g nv res.lets):gW P E F σ ρ a w g o Q res.upd:=by
 simp only[aA,Vbj]at h;obtain⟨l,h1,h2⟩:=h
 have pz:∀ b,a.eval x=.pointer (some b)->(execOp a.eval o).run P w=.ok (.value (.pointer (some b))) w:=by
  intro b hb;unfold execOp;simp only[ho,hb];rfl
 split at h2
 ·rename_i deps sz y
  simp only[aA,Vbj]at h2;obtain⟨ds,h3,h4⟩:=h2;refine dX hR hd h4 hs fun hg cA=>?_
  obtain⟨zs,hp,-,-⟩:=step1 cA hg;have hl:=fV hR hg h1;simp only[aB]at hl;obtain⟨ug,hv2,hv3⟩:=jC h3
  rcases hl.2 ug with ⟨e1,z,e2⟩|⟨b,row,e1,e2,e3⟩
  ·simp only[Wbe,Wbu,e2,aT.run]at hp
   simp at hp
  ·refine⟨.pointer (some b),?_,pz b e1⟩
   simp only[dC,aB];refine⟨b,1,1,.i64,0,⟨⟨rfl,fun z hz=>hl.1.2 z (hv2 z hz).1⟩,fun _=>⟨?_,by simp,trivial⟩⟩,rfl,by omega,by simp,by simp[Addr.add]⟩;rw[e2];exact e3.drop hR hv3
 ·rename_i b off
  refine dX hR hd h2 hs fun hg _=>?_
  have hl:=fV hR hg h1;have km:=hl;simp only[aB]at km;exact⟨_,hl,by rw[km.1];exact pz _ km.1⟩
 ·rename_i l' sz i off
  refine dX hR hd h2 hs fun hg _=>?_
  have hl:=fV hR hg h1;have km:=hl;simp only[aB]at km;obtain⟨b,n,c,k,iv,-,-,-,-,e⟩:=km;exact⟨_,hl,by rw[e];exact pz _ e⟩
 ·rename_i f cs
  refine dX hR hd h2 hs fun hg _=>?_
  have hl:=fV hR hg h1;have km:=hl;simp only[aB]at km;obtain⟨vs,e,-⟩:=km;refine⟨_,hl,?_⟩;unfold execOp;simp only[ho,e];rfl
 ·refine dX hR hd h2 hs fun hg cA=>?_
  obtain⟨zs,hp,-,-⟩:=step1 cA hg;simp[aI.val,aT.run]at hp
 ·cases h2
theorem Cb8 {op:BinOp}{x y:Value}{dx dy d:D}(hx:Sc x dx)(hy:Sc y dy)(h:Kb2 op dx dy=some d)(kv:op=.lss\/op=.gtr) :
  ∃ v,Sc v d/\(if op=.lss then Builtin.min2 x y else Builtin.max2 x y).run P w=.ok v w:=by
 unfold Kb2 at h;split at h
 ·rename_i k x' k' y'
  rw[hx.int_inv,hy.int_inv];split at h
  ·rename_i hk
   subst hk;obtain rfl:=Wbk h;refine⟨_,.int _ _,?_⟩
   rcases kv with rfl|rfl
   ·simp[Builtin.min2]
   ·simp[Builtin.max2]
  ·cases h
 ·cases h
theorem Taq {op:BinOp}(kv:op=.lss\/op=.gtr):∀ {vs:List Value} {ds:List D} {x:Value} {dx d:D},Sc x dx->vs.length=ds.length->(∀ (i:Nat) (v:Value) (e:D),vs[i]?=some v->ds[i]?=some e->Sc v e) ->
  Mat op dx ds=some d->∃ v,Sc v d/\(vs.foldlM (fun a b=>if op=.lss then Builtin.min2 a b else Builtin.max2 a b) x).run P w=.ok v w
 | [], ds, x, dx, d, hx, hl, _, h => by
  obtain rfl:ds=[]:=Xbi (by simpa using hl.symm);simp only[Mat,Vbl]at h;subst h;exact⟨x,hx,rfl⟩
 | v :: vs, ds, x, dx, d, hx, hl, hg, h => by
  cases ds with
  |nil=>simp at hl
  | cons e es =>
   simp only[Mat,Vbj]at h;obtain⟨z,h1,h2⟩:=h;obtain⟨u,h3,h4⟩:=Cb8 (P:=P) (w:=w) hx (hg 0 v e rfl rfl) h1 kv;obtain⟨r,h5,h6⟩:=Taq kv (vs:=vs) (ds:=es) h3 (by simpa using hl) (fun i v' e' hi he=>hg (i+1) v' e' hi he) h2;refine⟨r,h5,?_⟩;rw[List.foldlM_cons,Sem.run_bind,h4];exact h6
theorem Ka7 (hg:gOn ρ g=true):∀ {ls:List aP} {xs:List aI},Ia0 g ls=some xs->xs.length=ls.length /\
  ∀ (i:Nat) (l:aP) (x:aI) (v:Value),ls[i]?=some l->xs[i]?=some x->aB σ ρ G w l v->Sc v (x.val ρ)
 | [], xs, h => by
  simp only[Ia0,Vbl]at h;subst h;simp
 | l :: ls, xs, h => by
  simp only[Ia0,Vbj,Vb4]at h;obtain⟨x,h1,ys,h2,rfl⟩:=h;obtain⟨h3,h4⟩:=Ka7 hg h2;refine⟨by simp[h3],fun i l' x' v hi hx hl=>?_⟩
  cases i with
  | zero =>
   simp only[Vbv,Vbl]at hi hx;subst hi hx;exact kC hg h1 hl
  | succ i =>
   simp only[Wbz]at hi hx;exact h4 i l' x' v hi hx hl
theorem iI (hR:R E.ntmps F σ ρ a w G)(hd:fQ E.ntmps o){nv:Nat}{args:Array Operand}{argTypes:Array TypeId}{b:Builtin}{p:aT}{op:BinOp}
  (hb:(b=.min/\p=.min/\op=.lss)\/(b=.max/\p=.max/\op=.gtr))
  (ho:o.op=.call { callee:=.builtin b,args,argTypes }) {ov:List SV} {ts:List TypeId} {ls:List aP} {xs:List aI} {res:bS}
  (h1:(zW E g args.toList ts).eval σ=some ov) (h2:vL ov=some ls) (h3:Ia0 g ls=some xs)
  (h:(uJ o g nv p xs).eval σ=some res) (hs:aJ cf ρ g nv res.lets):gW P E F σ ρ a w g o Q res.upd:=by
 refine dO hR hd h hs fun hg d hp=>?_
 obtain⟨h4,h5⟩:=yI hR hg h1;obtain⟨h6,h7⟩:=Daw h2;obtain⟨h8,h9⟩:=Ka7 (σ:=σ) (ρ:=ρ) (G:=G) (w:=w) hg h3
 have cT:∀ (i:Nat) (v:Value) (e:D),(args.toList.map a.eval)[i]?=some v->(xs.map (·.val ρ))[i]?=some e->Sc v e:=by
  intro i v e hv he;simp only[Wbs,Vb4]at hv he;obtain⟨x,hx,rfl⟩:=hv;obtain⟨y,hy,rfl⟩:=he
  have bj:i<ls.length:=by
   rw[<- h8];exact (Vbn.1 hy).1
  have hl:ls[i]?=some ls[i]:=Vbq bj;exact h9 i _ y _ hl hy (h5 i _ x (h7 i _ hl) hx)
 have hlen:(args.toList.map a.eval).length=(xs.map (·.val ρ)).length:=by
  simp only[Wbm];omega
 generalize ic:args.toList.map a.eval=vs at cT hlen;generalize hes:xs.map (·.val ρ)=es at cT hlen hp
 have ez:args.map a.eval=vs.toArray:=by
  apply Zbc;simpa using ic
 cases es with
 |nil=>rcases hb with ⟨-,rfl,-⟩ | ⟨-,rfl,-⟩<;>simp[aT.run]at hp
 | cons e es =>
  cases vs with
  |nil=>simp at hlen
  | cons v vs =>
   have hf:Mat op e es=some d:=by
    rcases hb with ⟨-,rfl,rfl⟩|⟨-,rfl,rfl⟩<;>simpa[aT.run] using hp
   obtain⟨r,da,eo⟩:=Taq (P:=P) (w:=w) (op:=op) (by rcases hb with ⟨-,-,rfl⟩|⟨-,-,rfl⟩<;>simp) (cT 0 v e rfl rfl) (by simpa using hlen)
    (fun i v' e' hi he=>cT (i+1) v' e' hi he) hf
   refine⟨r,da,?_⟩
   rcases hb with ⟨rfl,rfl,rfl⟩|⟨rfl,rfl,rfl⟩
   ·refine mY ho (s:=Builtin.min_ argTypes o.type (args.map a.eval)) (fun _=>rfl) ?_
    rw[ez];simpa[Builtin.min_] using eo
   ·refine mY ho (s:=Builtin.max_ argTypes o.type (args.map a.eval)) (fun _=>rfl) ?_
    rw[ez];simpa[Builtin.max_] using eo
end
section
variable {P:Program} {E:Env} {F:bK} {σ:Nat->Option aQ} {ρ:List D} {a:Act} {w w':World} {G:Gh} {g:Option (aI×Bool)} {o:Oper} {cf:Nat->List D->Option (List D)} {Q:Exit->Act->World->Prop} {next:Act->World->Prop}
def Scs (vs:List Value)(ds:List D):Prop:=vs.length=ds.length/\∀ (i:Nat) (v:Value) (d:D),vs[i]?=some v->ds[i]?=some d->Sc v d
theorem Scs.drop {vs:List Value}{ds:List D}(h:Scs vs ds)(k:Nat):Scs (vs.drop k) (ds.drop k) :=
 ⟨by simp[h.1],fun i v d hv hd=>by rw[Wbt]at hv hd;exact h.2 _ v d hv hd⟩
theorem Scs.take {vs:List Value}{ds:List D}(h:Scs vs ds)(k:Nat):Scs (vs.take k) (ds.take k) :=
 ⟨by simp[h.1],fun i v d hv hd=>by
  rw[Wbw]at hv hd;split at hv
  ·rename_i hk
   rw[if_pos hk]at hd;exact h.2 _ v d hv hd
  ·cases hv⟩
theorem Iac:∀ {ks ls:List Nat} {a b c d:List D},a.length=ks.length->b.length=ks.length->∀ {r:Bool},Qao (ks++ls) (a++c) (b++d)=some r ->
  ∃ r1,Qao ks a b=some r1/\(r1=true->Qao ls c d=some r)/\(r1=false->r=false)
 |[],ls,[],[],c,d,_,_,r,h=>⟨true,rfl,fun _=>h,fun h=>by cases h⟩
 | k :: ks, ls, x :: a, y :: b, c, d, h1, h2, r, h => by
  simp only[Xb0,Qao,Vbj]at h;obtain⟨e,h3,h4⟩:=h
  cases e with
  | true =>
   simp only[if_true]at h4;obtain⟨r1,h5,h6,h7⟩:=Iac (by simpa using h1) (by simpa using h2) h4;exact⟨r1,by simp[Qao,h3,h5],h6,h7⟩
  | false =>
   simp only[Vbm,if_false,Vbl]at h4;exact⟨false,by simp[Qao,h3],(fun h=>by cases h),fun _=>h4.symm⟩
 |[],_,_::_,_,_,_,h,_,_,_=>by simp at h
 |[],_,[],_::_,_,_,_,h,_,_=>by simp at h
 |_::_,_,[],_,_,_,h,_,_,_=>by simp at h
 |_::_,_,_::_,[],_,_,_,h,_,_=>by simp at h
theorem Lbj (l m:List UInt8):((⟨l.toArray⟩:ByteArray)==⟨m.toArray⟩)=(l==m):=by
 have:((⟨l.toArray⟩:ByteArray)==⟨m.toArray⟩)=(l.toArray==m.toArray):=rfl;rw[this];simp
theorem Vbf {x y:D}{r:Bool}(h:eqD 0 x y=some r):∃ k i j,x=.int k i/\y=.int k j/\r=(i==j):=by
 cases x<;>cases y<;>simp only[eqD]at h<;>first|cases h|skip
 split at h
 ·rename_i e
  subst e;exact⟨_,_,_,rfl,rfl,(Wbk h).symm⟩
 ·cases h
theorem Vbe {x y:D}{r:Bool}(h:eqD 1 x y=some r):∃ i j,x=.bool i/\y=.bool j/\r=(i==j):=by
 cases x<;>cases y<;>simp only[eqD]at h<;>first|(cases h;done)|skip
 exact⟨_,_,rfl,rfl,(Wbk h).symm⟩
theorem Vbd {x y:D}{r:Bool}(h:eqD 2 x y=some r):∃ i j,x=.str i/\y=.str j/\r=(i==j):=by
 cases x<;>cases y<;>simp only[eqD]at h<;>first|(cases h;done)|skip
 exact⟨_,_,rfl,rfl,(Wbk h).symm⟩
theorem Pbp {x y:D}{r:Bool}(h:eqD 3 x y=some r):False:=by
 cases x<;>cases y<;>simp[eqD]at h
theorem Pbo {t:TypeId}{x y:Value}{dx dy:D}{b:Bool}(hx:Sc x dx)(hy:Sc y dy)(h:eqD (Fad (pG P t)) dx dy=some b)(n:Nat):(Op.equalIn (n+1) t x y).run P w=.ok b w:=by
 unfold pG at h;split at h
 ·rename_i k hu
  obtain⟨k1,i,j,rfl,rfl,rfl⟩:=Vbf h;simp[Op.equalIn,run_underlying hu,hx.int_inv,hy.int_inv]
 ·rename_i hu
  obtain⟨i,j,rfl,rfl,rfl⟩:=Vbe h;simp[Op.equalIn,run_underlying hu,hx.bool_inv,hy.bool_inv]
 ·rename_i hu
  obtain⟨l,m,rfl,rfl,rfl⟩:=Vbd h;simp only[Op.equalIn,run_underlying hu,hx.str_inv,hy.str_inv,Sem.run_bind,Result.andThen_ok,Sem.run_pure];rw[Lbj]
 ·exact (Pbp h).elim
 ·exact (Pbp h).elim
 ·exact (Pbp h).elim
def rV (P:Program)(t:TypeId)(vs:List Value)(v:Value):Prop:=match P.underlying t with
 |some (.struct _)=>v=.agg vs.toArray
 |_=>vs=[v]
theorem Pal (P:Program)(d:Nat):∀ (fs:List Field) (acc l:List TypeId),fs.foldl (fun acc f=>acc.bind fun l=>(flat P d f.type).bind fun m=>bif Nat.beq f.offset l.length then some (l++m) else none) (some acc)=some l ->
  ∃ ls,l=acc++ls/\(∀ f r,fs=f::r->∃ m,flat P d f.type=some m/\f.offset=acc.length/\∃ kO,ls=m++kO/\r.foldl (fun acc f=>acc.bind fun l=>(flat P d f.type).bind fun m=>bif Nat.beq f.offset l.length then some (l++m) else none) (some (acc++m))=some l)/\(fs=[]->ls=[])
 | [], acc, l, h => by
  simp only[List.foldl_nil,Vbl]at h;exact⟨[],by simp[h],by simp,fun _=>rfl⟩
 | f :: r, acc, l, h => by
  simp only[List.foldl_cons,Vbs]at h
  cases hm:flat P d f.type with
  | none =>
   rw[hm]at h;simp only[Option.bind_none]at h
   have:∀ (r:List Field),r.foldl (fun acc f=>acc.bind fun l=>(flat P d f.type).bind fun m=>bif Nat.beq f.offset l.length then some (l++m) else none) (none:Option (List TypeId))=none:=by
    intro r
    induction r with
    |nil=>rfl
    |cons _ _ ih=>simpa using ih
   rw[this]at h;cases h
  | some m =>
   rw[hm]at h;simp only[Vbs]at h
   cases ho:Nat.beq f.offset acc.length with
   | false =>
    rw[ho]at h;simp only[cond_false]at h
    have:∀ (r:List Field),r.foldl (fun acc f=>acc.bind fun l=>(flat P d f.type).bind fun m=>bif Nat.beq f.offset l.length then some (l++m) else none) (none:Option (List TypeId))=none:=by
     intro r
     induction r with
     |nil=>rfl
     |cons _ _ ih=>simpa using ih
    rw[this]at h;cases h
   | true =>
    rw[ho]at h;simp only[cond_true]at h;obtain⟨ls,h1,-,-⟩:=Pal P d r (acc++m) l h;refine⟨m++ls,by rw[h1,List.append_assoc],fun f' r' e=>?_,by simp⟩;obtain⟨rfl,rfl⟩:=Zbd e;exact⟨m,hm,by simpa using ho,ls,rfl,h⟩
theorem vH {α:Type}(l:List α)(k m:Nat):(l.drop k).take m++l.drop (k+m)=l.drop k:=by
 rw[<- List.drop_drop,List.take_append_drop]
theorem Ca6 {t:TypeId}{d:Nat}{m:List TypeId}(hm:flat P d t=some m)(hs:Obl P d t=true)(hc:Ma3 P d t=true){vs:List Value}{off:Nat}(hl:off+m.length<=vs.length) :
  ∃ v,rV P t ((vs.drop off).take m.length) v/\(part t vs.toArray off).run P w=.ok v w:=by
 unfold Obl at hs;rw[hm]at hs
 cases hi:P.info? t with
 |none=>rw[hi]at hs;cases hs
 | some i =>
  rw[hi]at hs;simp only[Wbl]at hs
  cases d with
  |zero=>cases hc
  | succ d =>
   simp only[Ma3]at hc;simp only[flat]at hm
   cases hu:P.underlying t with
   |none=>rw[hu]at hm;cases hm
   | some u =>
    unfold rV;rw[hu]at hc hm ⊢;simp only[part,Sem.run_bind,Oad hu,Result.andThen_ok,run_sizeOf hi,Sem.run_ite];cases u<;>first|(cases hc;done)|skip
    case struct fs =>
     refine⟨_,rfl,?_⟩;simp only[Jar,if_true,Sem.run_bind,run_sizeOf hi,Result.andThen_ok,Sem.run_pure,<- hs];congr 2;apply Zbc;simp[List.extract_eq_take_drop]
    all_goals
     simp only[Vbl]at hm;subst hm;have bj:off<vs.length:=by simp only[Xbd]at hl;omega
     refine⟨vs[off],?_,?_⟩
     ·simp only[Xbd]
      rw[List.drop_eq_getElem_cons bj];rfl
     ·simp[Jar,Vbq bj]
theorem Iab (P:Program)(w:World):∀ (d:Nat) (t:TypeId) (l:List TypeId),Ma3 P d t=true->flat P d t=some l->∀ (xs ys:List Value) (dx dy:List D) (b:Bool) (x y:Value),
  Scs xs dx->Scs ys dy->xs.length=l.length->ys.length=l.length->rV P t xs x->rV P t ys y->Qao (l.map fun t=>Fad (pG P t)) dx dy=some b ->
  ∀ n,d<=n->(Op.equalIn n t x y).run P w=.ok b w
 |0,t,l,hc,_=>by cases hc
 | d + 1, t, l, hc, hf => by
  intro xs ys dx dy b x y hx hy wz hly hox hoy he n hn;obtain⟨n,rfl⟩:∃ m,n=m+1:=⟨n-1,by omega⟩
  have uu:(∀ fs,P.underlying t≠some (.struct fs))->flat P (d+1) t=some [t]->(Op.equalIn (n+1) t x y).run P w=.ok b w:=by
   intro xf hft;rw[hf]at hft;obtain rfl:=Wbk hft
   have h1:xs=[x]:=by
    unfold rV at hox;split at hox
    ·rename_i fs hu;exact absurd hu (xf fs)
    ·exact hox
   have h2:ys=[y]:=by
    unfold rV at hoy;split at hoy
    ·rename_i fs hu;exact absurd hu (xf fs)
    ·exact hoy
   subst h1 h2
   match dx,dy,hx.1,hy.1 with
   | [dx], [dy], _, _ =>
    simp only[Wbe,Wbu,Qao,Vbj]at he;obtain⟨e,h3,h4⟩:=he;have:e=b:=by cases e<;>simpa using h4
    subst this;exact Pbo (hx.2 0 x dx rfl rfl) (hy.2 0 y dy rfl rfl) h3 n
  simp only[Ma3]at hc;simp only[flat]at hf
  cases hu:P.underlying t with
  |none=>rw[hu]at hc;cases hc
  | some u =>
   rw[hu]at hc hf;cases u<;>first|(cases hc;done)|skip
   case struct fs =>
    simp only[Vbk,Vb9,Wbg]at hc;obtain⟨a0c,cT⟩:=hc;have rK:x=.agg xs.toArray:=by unfold rV at hox;rw[hu]at hox;exact hox
    have uq:y=.agg ys.toArray:=by unfold rV at hoy;rw[hu]at hoy;exact hoy
    subst rK uq;have hfs:P.fieldsOf t=fs:=by simp[Program.fieldsOf,hu]
    rw[run_equalIn_struct (P:=P) w n t _ _ (by rw[hfs];exact hu) a0c,hfs];dsimp only at hf;generalize hgl:fs.toList=gs at hf cT
    have key : ∀ (gs : List Field) (acc : List TypeId) (b : Bool), (∀ f ∈ gs, (f.name != "_") = true /\ Ma3 P d f.type = true /\ Obl P d f.type = true) ->
      gs.foldl (fun acc f=>acc.bind fun l=>(flat P d f.type).bind fun m=>bif Nat.beq f.offset l.length then some (l++m) else none) (some acc)=some l ->
      Qao ((l.drop acc.length).map fun t=>Fad (pG P t)) (dx.drop acc.length) (dy.drop acc.length)=some b ->
      (Op.eqFields n xs.toArray ys.toArray gs).run P w=.ok b w:=by
     intro gs
     induction gs with
     | nil =>
      intro acc b _ qg hq;simp only[List.foldl_nil,Vbl]at qg;subst qg;have e1:dx.drop acc.length=[]:=List.drop_of_length_le (by rw[<- hx.1];omega);have e2:dy.drop acc.length=[]:=List.drop_of_length_le (by rw[<- hy.1];omega);simp only[List.drop_length,Wbu,e1,e2,Qao,Vbl]at hq;subst hq;simp[Op.eqFields]
     | cons f r ih =>
      intro acc b ka qg hq;obtain⟨ls,e1,h1,-⟩:=Pal P d (f::r) acc l qg;obtain⟨m,hm,pZ,kO,e2,zw⟩:=h1 f r rfl;obtain⟨hname,rk,dh⟩:=ka f Vb7;have hlen:acc.length+m.length<=l.length:=by rw[e1,e2];simp
      have oe:l.drop acc.length=m++kO:=by rw[e1,e2];simp
      rw[oe,Ybj]at hq;rw[<- vH dx acc.length m.length,<- vH dy acc.length m.length]at hq
      have kg:((dx.drop acc.length).take m.length).length=(m.map fun t=>Fad (pG P t)).length:=by
       simp only[Wbh,Wb4,Wbm,<- hx.1];omega
      have kb:((dy.drop acc.length).take m.length).length=(m.map fun t=>Fad (pG P t)).length:=by
       simp only[Wbh,Wb4,Wbm,<- hy.1];omega
      obtain⟨r1,h2,h3,h4⟩:=Iac kg kb hq;obtain⟨vx,hvx,hpx⟩:=Ca6 (w:=w) hm dh rk (vs:=xs) (off:=acc.length) (by omega);obtain⟨vy,hvy,hpy⟩:=Ca6 (w:=w) hm dh rk (vs:=ys) (off:=acc.length) (by omega)
      have heq:=Iab P w d f.type m rk hm _ _ _ _ r1 vx vy ((hx.drop _).take _) ((hy.drop _).take _) (by simp only[Wbh,Wb4];omega)
       (by simp only[Wbh,Wb4];omega) hvx hvy h2 n (by omega)
      have hname' : f.name ≠ "_" := by simpa using hname
      rw[Op.eqFields];simp only[if_pos hname',Sem.run_bind,pZ,hpx,hpy,heq,Result.andThen_ok]
      cases r1 with
      | false =>
       obtain rfl:=h4 rfl;simp
      | true =>
       have:=ih (acc++m) b (fun f' hf'=>ka f' (Vb1 _ hf')) zw (by
        rw[List.length_append,<- List.drop_drop,oe];simpa using h3 rfl)
       simpa using this
    exact key gs [] b (fun f hf'=>by
     have:=cT f hf';exact⟨this.1.1,this.1.2,this.2⟩) hf (by simpa using he)
   all_goals exact uu (by intro fs e;rw[hu]at e;cases e) (by simp[flat,hu])
theorem Iaz:∀ {ls:List aP} {xs:List aI} {vs:List Value},atoms ls=some xs->aD σ ρ G w ls vs->Scs vs (xs.map (·.val ρ))/\xs.length=ls.length
 | [], xs, vs, h, hl => by
  simp only[atoms,Vbl]at h;simp only[aD]at hl;subst h hl;exact⟨⟨rfl,by simp⟩,rfl⟩
 | l :: ls, xs, vs, h, hl => by
  cases l<;>simp only[atoms]at h<;>first|(cases h;done)|skip
  simp only[Vb4]at h;obtain⟨ys,h1,rfl⟩:=h;simp only[aD]at hl;obtain⟨u,us,rfl,h2,h3⟩:=hl;obtain⟨⟨h4,h5⟩,h6⟩:=Iaz h1 h3;refine⟨⟨by simpa using h4,fun i v d hv hd=>?_⟩,by simp[h6]⟩
  cases i with
  | zero =>
   simp only[Vbv,Wbe,Vbl]at hv hd;subst hv hd;simpa[aB] using h2
  | succ i =>
   simp only[Wbe,Wbz]at hv hd;exact h5 i v d hv hd
theorem Gaz (hR:R E.ntmps F σ ρ a w G)(hd:fQ E.ntmps o){nv:Nat}{p:aT}{xs:List aI}{neg:Bool}{op:BinOp}{t ty:TypeId}{x y:Operand}
  (ho:o.op=.binOp op t x y ty) (kv:op=if neg then .neq else .eql) {res:bS}
  (h:(RdM.ret ⟨[.prim p xs 1]++(bif neg then [.prim .not [.v nv] 1] else []),match o.dst with|some d=>[(kT d,aQ.slot none (mkS g (.v (bif neg then nv+1 else nv))))]|none=>[]⟩:RdM bS).eval σ=some res)
  (hs:aJ cf ρ g nv res.lets)
  (hv:gOn ρ g=true->∀ d,p.run (xs.map (·.val ρ))=some [d]->∃ b,d=.bool b/\(eqGuard op t x y (a.eval x) (a.eval y)).run P w=.ok () w /\
   (binOp op t (a.eval x) (a.eval y)).run P w=.ok (.bool (if neg then !b else b)) w):gW P E F σ ρ a w g o Q res.upd:=by
 simp only[aC,Vbl]at h;subst h;simp only[Fai]
 cases neg with
 | false =>
  simp only[cond_false,Wbo]at hs ⊢;refine⟨fun hg=>?_,fun hg=>Gbw hR hd hg (Gat hs hg)⟩;obtain⟨d,h1,h2⟩:=gJ hs hg;obtain⟨b,rfl,h3,h4⟩:=hv hg d h1;refine Lat hR hd hg (v:=.bool b) ?_ (by rw[h2];exact .bool _);unfold execOp;simp only[ho];refine gG ?_;rw[Sem.run_bind,h3];exact h4
 | true =>
  simp only[cond_true]at hs ⊢;have ke:aJ cf ρ g nv [.prim p xs 1]:=⟨hs.1,trivial⟩;have gR:aJ cf ρ g (nv+1) [.prim .not [.v nv] 1]:=⟨hs.2.1,trivial⟩;refine⟨fun hg=>?_,fun hg=>Gbw hR hd hg (Gat gR hg)⟩;obtain⟨d,h1,h2⟩:=gJ ke hg;obtain⟨e,h5,h6⟩:=gJ gR hg;obtain⟨b,rfl,h3,h4⟩:=hv hg d h1;simp only[Wbe,Wbu,h2,aT.run,Vbl,Xbh,and_true]at h5;subst h5;refine Lat hR hd hg (v:=.bool (!b)) ?_ (by rw[h6];exact .bool _);unfold execOp;simp only[ho];refine gG ?_;rw[Sem.run_bind,h3];exact h4
theorem Bat {neg:Bool}{op:BinOp}(kv:op=if neg then .neq else .eql){t:TypeId}{x y:Value}{b:Bool}(h:(Op.equal t x y).run P w=.ok b w)
  (hx:∀ k n,x≠.int k n) (hs:∀ s,x≠.string s) (hf:∀ k b,x≠.float k b) (hc:∀ k r i,x≠.complex k r i):(binOp op t x y).run P w=.ok (.bool (if neg then !b else b)) w:=by
 cases neg with
 | false =>
  simp only[Vbm,if_false]at kv;subst kv;unfold binOp
  cases x<;>first
   |exact absurd rfl (hx _ _)
   |exact absurd rfl (hs _)
   |exact absurd rfl (hf _ _)
   |exact absurd rfl (hc _ _ _)
   |(cases y<;>simp[h])
 | true =>
  simp only[if_true]at kv;subst kv;unfold binOp
  cases x<;>first
   |exact absurd rfl (hx _ _)
   |exact absurd rfl (hs _)
   |exact absurd rfl (hf _ _)
   |exact absurd rfl (hc _ _ _)
   |(cases y<;>simp[h])
theorem oZ {op:BinOp}{t:TypeId}{x y:Operand}{u v:Value}(h1:u≠.nilIface)(h2:(∀ c,u≠.agg c)\/P.eqGuardType P.depth t=false):(eqGuard op t x y u v).run P w=.ok () w:=by
 unfold eqGuard
 rcases h2 with h2|h2
 ·cases op<;>cases u<;>cases v<;>first|rfl|exact absurd rfl h1|exact absurd rfl (h2 _)
 ·cases op<;>cases u<;>cases v<;>first|rfl|exact absurd rfl h1|simp[h2]
theorem Ebu {t:TypeId}{i:TI}{info:TypeInfo}{u:TypeDesc}(f:dF P t i info u)(h:i.isBool=true):u=.bool:=by
 have:Ra1 u=true:=by rw[<- h,f.eq];rfl
 unfold Ra1 at this;split at this
 ·rfl
 ·cases this
theorem Gbu {t:TypeId}{i:TI}{info:TypeInfo}{u:TypeDesc}(f:dF P t i info u)(h:i.isPtr=true):∃ e,u=.pointer e:=by
 have:Yaz u=true:=by rw[<- h,f.eq];rfl
 unfold Yaz at this;split at this
 ·exact⟨_,rfl⟩
 ·cases this
theorem Yaj {neg:Bool}{op:BinOp}(h:op=if neg then .neq else .eql):(bif neg then BinOp.neq else .eql)=op:=by cases neg<;>simp[h]
theorem Lav {t:TypeId}{ti:TI}{info:TypeInfo}{u:TypeDesc}(f:dF P t ti info u)(sB:ti.cmp=true){xs ys:List Value}{dx dy:List D}{b:Bool}(hx:Scs xs dx)(hy:Scs ys dy)
  (wz:xs.length=ti.size) (hly:ys.length=ti.size) (h:Qao (ti.cells.map Fad) dx dy=some b) :
  (Op.equal t (.agg xs.toArray) (.agg ys.toArray)).run P w=.ok b w/\P.eqGuardType P.depth t=false:=by
 have hc:ti.cmp=(Jar u&&Ma3 P 12 t&&!(P.eqGuardType P.depth t)):=by rw[f.eq];rfl
 rw[hc]at sB;simp only[Vbk,Vb9]at sB;obtain⟨⟨mL,ka⟩,yz⟩:=sB;have gA:=f.cells;simp only[Vb4]at gA;obtain⟨l,kg,kb⟩:=gA;have hlen:=f.len;rw[<- kb]at hlen h;simp only[Wbm]at hlen;rw[List.map_map]at h
 have cA:∃ fs,u=.struct fs:=by
  have hu:=f.und;simp only[Ma3,hu]at ka;cases u<;>first|(cases mL;done)|(cases ka;done)|exact⟨_,rfl⟩
 obtain⟨fs,rfl⟩:=cA;refine⟨?_,yz⟩;exact Iab P w 12 t l ka kg xs ys dx dy b _ _ hx hy (by omega) (by omega) (by unfold rV;rw[f.und]) (by unfold rV;rw[f.und]) h 10000 (by omega)
theorem Zaq {t:TypeId}(hu:P.underlying t=some .bool)(b c:Bool)(n:Nat):(Op.equalIn (n+1) t (.bool b) (.bool c)).run P w=.ok (b==c) w:=by
 simp[Op.equalIn,run_underlying hu]
theorem Db8 {t e:TypeId}(hu:P.underlying t=some (.slice e))(x y p q:Nat)(n:Nat):(Op.equalIn (n+1) t (.slice none x y) (.slice none p q)).run P w=.ok true w:=by
 simp[Op.equalIn,run_underlying hu]
theorem Zap {t e:TypeId}(hu:P.underlying t=some (.slice e))(a:Addr)(x y p q:Nat)(n:Nat):(Op.equalIn (n+1) t (.slice (some a) x y) (.slice none p q)).run P w=.ok false w:=by
 simp[Op.equalIn,run_underlying hu]
theorem Db7 {t e:TypeId}(hu:P.underlying t=some (.pointer e))(A:Option Addr)(n:Nat):(Op.equalIn (n+1) t (.pointer A) (.pointer none)).run P w=.ok A.isNone w:=by
 cases A<;>simp[Op.equalIn,run_underlying hu]
theorem Tai (hR:R E.ntmps F σ ρ a w G)(hd:fQ E.ntmps o)(hti:vV P E.ti){nv:Nat}{neg:Bool}{op:BinOp}{t ty:TypeId}{x y:Operand}
  (ho:o.op=.binOp op t x y ty) (kv:op=if neg then .neq else .eql) {res:bS}
  (h:(Obm E nv o g neg t x y).eval σ=some res) (hs:aJ cf ρ g nv res.lets):gW P E F σ ρ a w g o Q res.upd:=by
 unfold Obm at h;simp only[aA,Vbj]at h;obtain⟨va,h1,vb,h2,h3⟩:=h;split at h3
 ·
  rename_i ls ms;simp only[aA,Vbj,tiR,aV]at h3;obtain⟨ti,hi,h4⟩:=h3;obtain⟨info,u,f⟩:=aW (hti.ok _ _ hi);split at h4
  ·rename_i xs ys uf zc
   simp only[aA,Vbj,aH]at h4;obtain⟨_,h5,h6⟩:=h4;split at h5
   ·rename_i hb
    simp only[Vbk,Wbl]at hb;obtain⟨⟨sB,wz⟩,hly⟩:=hb;refine Gaz hR hd ho kv h6 hs fun hg d hp=>?_
    obtain⟨vx,ex,a43⟩:=gK hR hg h1;obtain⟨vy,ey,a6f⟩:=gK hR hg h2;obtain⟨pH,qe⟩:=Iaz uf a43;obtain⟨hy1,hy2⟩:=Iaz zc a6f;have fW:(ti.cells.map Fad).length=xs.length:=by rw[Wbm,f.len];omega
    simp only[aT.run,fW,Ybj,Wbm,Vb4,Xbh,and_true]at hp;obtain⟨b,hp,rfl⟩:=hp;rw[List.take_left' (by simp),List.drop_left' (by simp)]at hp;have a7d:=pH.1;have a7p:=hy1.1;simp only[Wbm]at a7d a7p;obtain⟨h7,h8⟩:=Lav (w:=w) f sB pH hy1 (by omega) (by omega) hp;refine⟨b,rfl,?_,?_⟩
    ·rw[ex];exact oZ (by simp) (.inr h8)
    ·rw[ex,ey];exact Bat kv h7 (by simp) (by simp) (by simp) (by simp)
   ·cases h5
  ·cases h4
 ·rename_i l m
  simp only[aA,Vbj,tiR,aV]at h3;obtain⟨ti,hi,h4⟩:=h3;obtain⟨info,u,f⟩:=aW (hti.ok _ _ hi);split at h4
  ·
   rename_i p q hp hq;rw[gZ]at h4;have hx:gOn ρ g=true->Sc (a.eval x) (p.val ρ):=fun hg=>kC hg hp (gK hR hg h1)
   have hy:gOn ρ g=true->Sc (a.eval y) (q.val ρ):=fun hg=>kC hg hq (gK hR hg h2)
   split at h4
   ·rename_i a1a
    obtain rfl:=Ebu f a1a;refine dO hR hd h4 hs fun hg d pL=>?_
    have hx:=hx hg;have hy:=hy hg;simp only[Wbe,Wbu]at pL;generalize p.val ρ=pv at hx pL;generalize q.val ρ=qv at hy pL;cases pv<;>cases qv<;>simp only[aT.run]at pL<;>first|(cases pL;done)|skip
    rename_i b c;simp only[Vbl,Xbh,and_true]at pL;subst pL;refine⟨.bool (if neg then !(b==c) else b==c),.bool _,?_⟩;unfold execOp;simp only[ho,hx.bool_inv,hy.bool_inv];refine gG ?_;rw[Sem.run_bind,oZ (by simp) (.inl (by simp))]
    have he:(Op.equal t (.bool b) (.bool c)).run P w=.ok (b==c) w:=by
     unfold Op.equal Op.maxDepth;exact Zaq f.und b c 9999
    exact Bat kv he (by simp) (by simp) (by simp) (by simp)
   ·rw[Yaj kv]at h4
    exact Na7 hR hd ho hx hy h4 hs
  ·rw[gZ]at h4
   split at h4
   ·
    rename_i fx;simp only[aA,Vbj,aH]at h4;obtain⟨_,h5,s,h6,r0,h8,h7⟩:=h4;split at h5
    ·rename_i hel
     obtain⟨e,rfl⟩:=Iad f hel
     have x5:aJ cf ρ g nv r0.lets->(gOn ρ g=true->∀ z,s.x.val ρ=.rows z []->s.nie=true)->gW P E F σ ρ a w g o Q r0.upd:=by
      intro hs cU;refine Gaz hR hd ho kv h8 hs fun hg d hp=>?_
      have gC:=eH hR h6 (gK hR hg h1);simp only[Wbe,Wbu]at hp;have jc:=gC.rd;have ub:∀ z,s.x.val ρ=.rows z []->a.eval x=.slice none 0 0:=fun z hz=>gC.nie (cU hg z hz) z hz
      generalize s.x.val ρ=sv at hp jc ub;cases sv<;>simp only[aT.run]at hp<;>first|(cases hp;done)|skip
      rename_i sz rs;simp only[Vbl,Xbh,and_true]at hp;subst hp;obtain⟨A,b,n,c,vs,e1,e2,e3,e4,-⟩:=jc.inv
      have hy:∃ n' c',a.eval y=.slice none n' c':=by
       unfold Kaz at fx;split at fx
       ·rename_i n' c';exact⟨n',c',rfl⟩
       ·cases fx
      obtain⟨n',c',hy⟩:=hy;refine⟨rs.isEmpty,rfl,?_,?_⟩
      ·rw[e1];exact oZ (by simp) (.inl (by simp))
      ·have he:(Op.equal t (a.eval x) (a.eval y)).run P w=.ok rs.isEmpty w:=by
        unfold Op.equal Op.maxDepth
        cases y8:rs with
        | nil =>
         rw[ub sz (by rw[y8]),hy];exact Db8 f.und _ _ _ _ 9999
        | cons r rs' =>
         have:A=some b:=e4.resolve_left (by rw[<- e2,y8];simp);rw[e1,hy,this];exact Zap f.und _ _ _ _ _ 9999
       rw[e1]at he ⊢;exact Bat kv he (by simp) (by simp) (by simp) (by simp)
     simp only[aC,Vbl]at h7;subst h7
     cases hnie:s.nie with
     | true =>
      rw[hnie]at hs;exact x5 hs fun _ _ _=>hnie
     | false =>
      rw[hnie]at hs;refine x5 hs.2 fun hg z hz=>?_
      obtain⟨ds,h9,-⟩:=hs.1.1 hg;simp only[Wbe,Wbu]at h9;rw[hz]at h9;simp[aT.run]at h9
    ·cases h5
   ·rw[gZ]at h4
    split at h4
    ·
     rename_i fx;simp only[aA,Vbj,aH]at h4;obtain⟨_,h5,h6⟩:=h4;split at h5
     ·rename_i hpt
      obtain⟨e,rfl⟩:=Gbu f hpt
      have hy:a.eval y=.pointer none:=by
       unfold Ta6 at fx;split at fx
       ·rfl
       ·cases fx
      have heq:∀ A,a.eval x=.pointer A->(Op.equal t (a.eval x) (a.eval y)).run P w=.ok A.isNone w:=by
       intro A hA;unfold Op.equal Op.maxDepth;rw[hA,hy];exact Db7 f.und A 9999
      have cC:∀ A,a.eval x=.pointer A->(eqGuard op t x y (a.eval x) (a.eval y)).run P w=.ok () w/\(binOp op t (a.eval x) (a.eval y)).run P w=.ok (.bool (if neg then !A.isNone else A.isNone)) w:=by
       intro A hA;refine⟨by rw[hA];exact oZ (by simp) (.inl (by simp)),?_⟩;have:=heq A hA;rw[hA]at this ⊢;exact Bat kv this (by simp) (by simp) (by simp) (by simp)
      have hconst:∀ (c:Bool) (nvx:Nat),(uJ o g nv .id [.c (.bool c)]).eval σ=some res->(gOn ρ g=true->∃ A,a.eval x=.pointer A/\c=(if neg then !A.isNone else A.isNone))->gW P E F σ ρ a w g o Q res.upd:=by
       intro c _ h7 hc;refine dO hR hd h7 hs fun hg d hp=>?_
       simp only[Wbe,Wbu,aI.val,aT.run,Vbl,Xbh,and_true]at hp;subst hp;obtain⟨A,hA,rfl⟩:=hc hg;refine⟨_,.bool _,?_⟩;unfold execOp;simp only[ho];refine gG ?_;rw[Sem.run_bind,(cC A hA).1];exact (cC A hA).2
      split at h6
      ·rename_i deps sz z
       simp only[aA,Vbj]at h6;obtain⟨ds,h7,h8⟩:=h6;refine Gaz hR hd ho kv h8 hs fun hg d hp=>?_
       have hl:=gK hR hg h1;simp only[dC,aB]at hl;simp only[Wbe,Wbu]at hp
       rcases hl.2 (jC h7).1 with ⟨e1,z',e2⟩|⟨b,row,e1,e2,-⟩
       ·rw[e2]at hp
        simp only[aT.run,List.isEmpty_nil,Vbl,Xbh,and_true]at hp;exact⟨true,hp.symm,cC none e1⟩
       ·rw[e2]at hp
        simp only[aT.run,List.isEmpty_cons,Vbl,Xbh,and_true]at hp;exact⟨false,hp.symm,cC (some b) e1⟩
      ·refine hconst _ 0 h6 fun hg=>?_
       have hl:=gK hR hg h1;simp only[dC,aB]at hl;exact⟨none,hl,by cases neg<;>rfl⟩
      ·refine hconst _ 0 h6 fun hg=>?_
       have hl:=gK hR hg h1;simp only[dC,aB]at hl;exact⟨_,hl.1,by cases neg<;>rfl⟩
      ·refine hconst _ 0 h6 fun hg=>?_
       have hl:=gK hR hg h1;simp only[dC,aB]at hl;obtain⟨_,_,_,_,_,_,_,_,_,e⟩:=hl;exact⟨_,e,by cases neg<;>rfl⟩
      ·cases h6
     ·cases h5
    ·cases h4
 ·cases h3
end
section
variable {P:Program} {E:Env} {F:bK} {σ:Nat->Option aQ} {ρ:List D} {a:Act} {w w':World} {G:Gh} {g:Option (aI×Bool)} {o:Oper} {cf:Nat->List D->Option (List D)} {Q:Exit->Act->World->Prop} {next:Act->World->Prop}
theorem kV {t:TypeId}{i:TI}{info:TypeInfo}{u:TypeDesc}(f:dF P t i info u)(b:Addr)(cs:List Value)(hl:cs.length=i.size)
  (h:∀ j v,cs[j]?=some v->w.cell? (b.add j)=some v) {v:Value} (hv:if i.agg=true then v=.agg cs.toArray else cs=[v]):(loadVar t b).run P w=.ok v w:=by
 unfold loadVar;rw[Sem.run_bind,f.isAgg];simp only[Result.andThen_ok];split at hv
 ·rename_i mL
  rw[if_pos mL,Sem.run_bind,f.sizeOf];simp only[Result.andThen_ok];rw[Sem.run_bind,<- hl,run_loadCells_list w b cs h];simp only[Result.andThen_ok,Sem.run_pure,hv]
 ·rename_i mL
  rw[if_neg mL,run_load];have:=h 0 v (by rw[hv];rfl);simp only[Addr.add,if_true]at this;rw[this]
theorem mJ (b:Addr):∀ (ls:List aP) (k:Nat),(∀ j l,ls[j]?=some l->∃ v,w.cell? (b.add (k+j))=some v/\aB σ ρ G w l v) ->
  ∃ vs,aD σ ρ G w ls vs/\∀ j v,vs[j]?=some v->w.cell? (b.add (k+j))=some v
 |[],k,_=>⟨[],by simp[aD],by simp⟩
 | l :: ls, k, h => by
  obtain⟨u,h1,h2⟩:=h 0 l rfl
  obtain⟨us,h3,h4⟩:=mJ b ls (k+1) fun j l' hj=>by
   have:=h (j+1) l' (by simpa using hj);rwa[show k+1+j=k+(j+1) by omega]
  refine⟨u::us,by simp only[aD];exact⟨u,us,rfl,h2,h3⟩,fun j v hj=>?_⟩
  cases j with
  | zero =>
   simp only[Vbv,Vbl]at hj;exact hj▸h1
  | succ j =>
   have:=h4 j v (by simpa using hj);rwa[show k+(j+1)=k+1+j by omega]
theorem zO.snoc {own:Nat->Ow}{r k:Nat}{c:Addr}{n m:Nat}{u':Value}:∀ (p q:List Nat) (v:Value),zO own w r q v p (.slice (some c) n m)->own c.block=.slc r (q++p)->w.cell? (c.add k)=some u'->zO own w r q v (p++[k]) u'
 | [], q, v, h, ho, hc => by
  simp only[zO]at h;simp only[List.nil_append,zO];exact⟨c,n,m,u',h.symm,by simpa using ho,hc,rfl⟩
 | j :: p, q, v, h, ho, hc => by
  obtain⟨a',n',c',u1,rfl,h1,h2,h3⟩:=h;simp only[Xb0,zO];exact⟨a',n',c',u1,rfl,h1,h2,zO.snoc p (q++[j]) u1 h3 (by simpa using ho) hc⟩
theorem Rd.sc_inv {ok:Nat->Prop}{v:Value}{d:D}(h:Rd ok w v d)(hd:d.isSc=true):Sc v d:=by
 cases h with
 |sc h=>exact h
 |hole=>simp[D.isSc]at hd
 |rows=>simp[D.isSc]at hd
theorem Rp.zero {own:Nat->Ow}{r:Nat}{p:List Nat}{v:Value}{d:D}(h:Rp own w r p 0 v d):Rd (fun b=>own b=.frz) w v d:=by
 generalize hm:0=m at h
 cases h with
 |sc h=>exact .sc h
 |hole _ h1=>exact .hole _ h1
 |fz h=>exact h
 |sl=>omega
theorem Abd {s:SlR}{c:Addr}{n cap:Nat}(h:Wav σ ρ G w s (.slice (some c) n cap)){sz:Nat}{rs:List (List D)}(hx:s.x.val ρ=.rows sz rs){i:aI}{k:IntKind}{iv:Int}(hi:i.val ρ=.int k iv)
  {row:List D} (hr:rs[iv.toNat]?=some row) {off:Nat} {d:D} (hd:row[off]?=some d) (ck:CK) (hk:Gb6 ck=true->d.isSc=true) {y:aI} (hy:y.val ρ=d) :
  ∃ v,w.cell? (c.add (iv.toNat*sz+off))=some v/\aB σ ρ G w (jV s i sz off ck y) v:=by
 have jc:=h.rd;rw[hx]at jc;obtain⟨A,c',n',jh,vs,e1,e2,e3,e4,e5,e6,e7⟩:=jc.inv;obtain⟨rfl,rfl,rfl⟩:some c=A/\n=n'/\cap=jh:=by injection e1 with a b c;exact⟨a,b,c⟩
 have bj:iv.toNat<rs.length:=by
  rcases Wbc iv.toNat rs.length with h|h
  ·exact h
  ·rw[Xbx h]at hr;cases hr
 have hc:c=c':=by
  rcases e4 with e4|e4
  ·omega
  ·exact Wbk e4
 subst hc;obtain⟨-,cE⟩:=e6 _ _ hr _ _ hd;have cR:=e7 _ _ hr _ _ hd;refine⟨_,cE,?_⟩
 cases ck with
 | sc z =>
  simp only[jV,aB];rw[hy];exact cR.sc_inv (hk rfl)
 |pn=>simpa only[jV,aB] using cR.one
 |ot=>simpa only[jV,aB] using cR.one
 | sl z =>
  have hex:∀ z∈s.deps,jK σ z.1 z.2:=fun z hz=>by
   obtain⟨m,hl⟩:=h.live z hz;exact hl.valid.known
  have a6z:aB σ ρ G w (.sn s.deps .no false y) (vs iv.toNat off):=by
   simp only[aB];exact⟨⟨cR.one,hex⟩,fun _=>⟨by rw[hy];exact cR,by simp,trivial⟩⟩
  simp only[jV];have cu:=h.own;unfold vQ at cu;split
  ·rename_i r k' m p ho
   rw[ho]at cu;obtain⟨h1,h2,h3,h4,h5⟩:=cu;rw[hx]at h4
   cases hm:m-p.length with
   | zero =>
    have:Nat.ble (p.length+2) m=false:=by
     cases hb:Nat.ble (p.length+2) m with
     |false=>rfl
     |true=>simp only[Wb6]at hb;omega
    rw[this,cond_false];rw[hm]at h4;obtain⟨A',c'',n'',wx,uc,e1',e2',e3',r7,e5',e6',e7'⟩:=h4.zero.inv;obtain⟨rfl,rfl,rfl⟩:some c=A'/\n=n''/\cap=wx:=by injection e1' with a b c;exact⟨a,b,c⟩
    have hc:c=c'':=by
     rcases r7 with r7|r7
     ·omega
     ·exact Wbk r7
    subst hc;obtain⟨-,jf⟩:=e6' _ _ hr _ _ hd;rw[cE]at jf;simp only[aB];refine⟨⟨cR.one,by simp⟩,fun _=>⟨?_,by simp,trivial⟩⟩;rw[hy,Wbk jf];exact (e7' _ _ hr _ _ hd).mono fun b hb=>⟨.inl hb,rfl⟩
   | succ m' =>
    rw[hm]at h4
    cases h4 with
    |sc h=>cases h
    | sl A' c'' n'' wx _ _ uc e2' e3' r7 e5' e6' e7' e8' =>
     have hc:c=c'':=by
      rcases r7 with r7|⟨r7,-⟩
      ·exact Wbk r7
      ·cases r7
     subst hc;obtain⟨-,mj,-⟩:=e6' rfl;have jf:=e7' _ _ hr _ _ hd;have te:=e8' _ _ hr _ _ hd;rw[cE]at jf;rw[<- Wbk jf]at te
     cases hb:Nat.ble (p.length+2) m with
     | false =>
      rw[cond_false]
      have:m'=0:=by
       have:¬ p.length+2<=m:=by rw[<- Wb6,hb];simp
       omega
      subst this;simp only[aB];refine⟨⟨cR.one,by simp⟩,fun _=>⟨?_,by simp,trivial⟩⟩;rw[hy];exact te.zero.mono fun b hb=>⟨.inl hb,rfl⟩
     | true =>
      rw[cond_true];simp only[Wb6]at hb
      have hpv:bB ρ (p++[(i,sz,off)])=bB ρ p++[iv.toNat*sz+off]:=by
       simp[bB,lN,hi]
      simp only[aB];refine⟨⟨cR.one,fun z hz=>?_⟩,fun _=>⟨?_,by simp,?_⟩⟩
      ·simp only[Vbp]at hz
       subst hz;exact h2.valid.known
      ·rw[hy]
       rw[h1]at cR;exact cR
      ·simp only[Dag]
       intro r2 k2 m2 e2 kb;obtain⟨rfl,rfl⟩:r=r2/\k'=k2:=by simpa using e2
       obtain⟨x1,ex1⟩:=h2;obtain⟨x2,wc⟩:=kb;rw[ex1]at wc;obtain rfl:m=m2:=by injection wc with wc;injection wc
       refine⟨by simp;omega,?_,?_⟩
       ·rw[hpv,hy,show m-(p++[(i,sz,off)]).length=m' by simp;omega]
        exact te
       ·rw[hpv]
        exact h5.snoc _ _ _ (by simpa using mj) cE
  ·exact a6z
theorem Han:∀ {ks:List Bool} {ds:List D},Daz ks ds=true->∀ (j:Nat) (d:D),ks[j]?=some true->ds[j]?=some d->d.isSc=true
 |[],ds,_,j,d,hk,_=>by simp at hk
 |k::ks,[],h,j,d,hk,hd=>by simp at hd
 | k :: ks, e :: ds, h, j, d, hk, hd => by
  simp only[Daz,Vbk,Wb9,Vb9]at h
  cases j with
  | zero =>
   simp only[Vbv,Vbl]at hk hd;subst hk hd;simpa using h.1
  |succ j=>exact Han h.2 j d (by simpa using hk) (by simpa using hd)
theorem Das {t:TypeId}{b:Addr}{v:Value}(h:(loadVar t b).run P w=.ok v w):(Instr.loadAt t (.pointer (some b))).run P w=.ok v w:=by
 simp only[Instr.loadAt,Instr.sureAddr,Sem.run_bind,Sem.run_pure,Result.andThen_ok,h]
theorem xO (s:SlR)(i:aI)(sz:Nat):∀ (cs:List CK) (off y j:Nat) (l:aP),(fG s i sz off cs y)[j]?=some l->∃ c,cs[j]?=some c/\l=jV s i sz (off+j) c (.v (y+j))
 |[],off,y,j,l,h=>by simp[fG]at h
 | c :: cs, off, y, j, l, h => by
  simp only[fG]at h
  cases j with
  | zero =>
   simp only[Vbv,Vbl]at h;exact⟨c,rfl,h.symm⟩
  | succ j =>
   obtain⟨c',h1,h2⟩:=xO s i sz cs (off+1) (y+1) j l (by simpa using h);exact⟨c',by simpa using h1,by rw[h2];congr 1<;>first|omega|(congr 1;omega)⟩
theorem xN (s:SlR)(i:aI)(sz:Nat):∀ (cs:List CK) (off y:Nat),(fG s i sz off cs y).length=cs.length
 |[],_,_=>rfl
 |c::cs,off,y=>by simp[fG,xN s i sz cs (off+1) (y+1)]
theorem Dao {agg:Bool}{ls:List aP}{sv:SV}(h:Tad agg ls=some sv){vs:List Value}(hl:vs.length=ls.length):∃ v,if agg=true then v=.agg vs.toArray else vs=[v]:=by
 cases agg with
 |true=>exact⟨_,rfl⟩
 | false =>
  simp only[Tad,cond_false]at h;split at h
  ·match vs,hl with
   |[v],_=>exact⟨v,rfl⟩
  ·cases h
theorem Xau {sz off:Nat}{ks:List Bool}{x i:D}{ds:List D}(h:(aT.row sz off ks).run [x,i]=some ds) :
  ∃ rs k iv row,x=.rows sz rs/\i=.int k iv/\0<=iv/\rs[iv.toNat]?=some row/\off+ks.length<=row.length/\Daz ks (row.drop off)=true/\ds=(row.drop off).take ks.length:=by
 cases x<;>cases i<;>simp only[aT.run]at h<;>first|cases h|skip
 rename_i nk rs k iv;split at h
 ·rename_i h1
  obtain⟨rfl,h1⟩:=h1;split at h
  ·rename_i row hr
   split at h
   ·rename_i h2
    simp only[Vbl]at h;exact⟨rs,k,iv,row,rfl,rfl,h1,hr,h2.1,h2.2,h.symm⟩
   ·cases h
  ·cases h
 ·cases h
theorem Vae (hR:R E.ntmps F σ ρ a w G)(hd:fQ E.ntmps o)(hti:vV P E.ti){nv:Nat}{t:TypeId}{x:Operand}(ho:o.op=.load t x){ti:TI}
  (hi:E.ti t=some ti) {p:aP} (hp:gOn ρ g=true->aB σ ρ G w p (a.eval x)) {res:bS}
  (h:(Sa7 nv o g ti p).eval σ=some res) (hs:aJ cf ρ g nv res.lets):gW P E F σ ρ a w g o Q res.upd:=by
 obtain⟨info,u,f⟩:=aW (hti.ok _ _ hi)
 have hex:∀ {v:Value},(Instr.loadAt t (a.eval x)).run P w=.ok v w->(execOp a.eval o).run P w=.ok (.value v) w:=by
  intro v hv;unfold execOp;simp only[ho];exact gG hv
 unfold Sa7 at h;split at h
 ·rename_i b off
  simp only[aA,aR,Vbs]at h;split at h
  ·rename_i ro bs hk
   simp only[aA,Vbj,aH]at h;obtain⟨_,gi,h⟩:=h;split at gi
   ·rename_i hle
    simp only[Wb6]at hle;split at h
    ·rename_i sv gS
     refine yE hR hd h hs fun hg=>?_
     have hl:=hp hg;simp only[aB]at hl;obtain⟨h1,h2,h3⟩:=hR.box hk
     obtain⟨vs,h4,h5⟩:=mJ (σ:=σ) (ρ:=ρ) (G:=G) (w:=w) ((G.bx b).add off) ((bs.drop off).take ti.size) 0 fun j l hj=>by
      rw[Wbw]at hj;split at hj
      ·rw[Wbt]at hj
       obtain⟨v,h6,-,h7⟩:=h3 _ _ hj;refine⟨v,?_,h7⟩;rw[Wbj,add_add];exact h6
      ·cases hj
     have hlen:vs.length=ti.size:=by
      rw[h4.len];simp;omega
     obtain⟨v,hv⟩:=Dao gS h4.len;refine⟨v,tZ gS h4 hv,hex ?_⟩;rw[hl.1];exact Das (kV f _ vs hlen (fun j v hj=>by simpa using h5 j v hj) hv)
    ·cases h
   ·cases gi
  ·cases h
 ·rename_i l sz i off
  simp only[aA,Vbj]at h;obtain⟨s,gC,h⟩:=h
  have main:∀ (ks:List Bool) (ds:List D),(∀ (j:Nat) (c:CK),ti.cells[j]?=some c->Gb6 c=true->ks[j]?=some true)->ks.length=ti.cells.length->gOn ρ g=true ->
    (aT.row sz off ks).run [s.x.val ρ,i.val ρ]=some ds->(∀ j d,ds[j]?=some d->(aI.v (nv+j)).val ρ=d) ->
    ∃ vs,aD σ ρ G w (fG s i sz off ti.cells nv) vs/\vs.length=ti.size/\∃ b,a.eval x=.pointer (some b)/\∀ j v,vs[j]?=some v->w.cell? (b.add j)=some v:=by
   intro ks ds hks qm hg cC lE;have hl:=hp hg;simp only[aB]at hl;obtain⟨b,n,c,k,iv,h1,h2,h3,h4,h5⟩:=hl;have a6q:=eH hR gC h1;obtain⟨rs,k',iv',row,e1,e2,e3,e4,e5,e6,rfl⟩:=Xau cC;rw[h2]at e2;obtain⟨rfl,rfl⟩:k=k'/\iv=iv':=by injection e2 with a b;exact⟨a,b⟩
   obtain⟨vs,h6,h7⟩:=mJ (σ:=σ) (ρ:=ρ) (G:=G) (w:=w) (b.add (iv.toNat*sz+off)) (fG s i sz off ti.cells nv) 0 fun j l' hj=>by
    obtain⟨c',ij,rfl⟩:=xO _ _ _ _ _ _ _ _ hj;have lq:j<ti.cells.length:=(Vbn.1 ij).1;have gj:row[off+j]?=some row[off+j]:=Vbq (by omega)
    obtain⟨v,ug,hv2⟩:=Abd a6q e1 h2 e4 (off:=off+j) (d:=row[off+j]) gj c' (fun k9=>Han e6 j _ (hks j c' ij k9) (by rw[Wbt];exact gj)) (y:=.v (nv+j))
     (lE j _ (by rw[Wbw,if_pos (by omega),Wbt];exact gj))
    refine⟨v,?_,hv2⟩;rw[add_add,Wbj,Vb8];exact ug
   exact⟨vs,h6,by rw[h6.len,xN,f.len],_,h5,fun j v hj=>by simpa using h7 j v hj⟩
  split at h
  ·rename_i x' gS
   have rK:x'=.v nv/\ti.agg=false/\∃ z,ti.cells=[.sc z]:=by
    unfold Tad at gS
    cases mL:ti.agg with
    |true=>rw[mL]at gS;simp at gS
    | false =>
     rw[mL]at gS;simp only[cond_false]at gS
     cases hc:ti.cells with
     |nil=>rw[hc]at gS;simp[fG]at gS
     | cons c cs =>
      cases cs with
      | nil =>
       rw[hc]at gS;simp only[fG,Vbl,SV.one.injEq]at gS
       cases c with
       |sc z=>simp only[jV,aP.sc.injEq]at gS;exact⟨gS.symm,rfl,z,rfl⟩
       | sl z =>
        simp only[jV]at gS;split at gS
        ·cases hb:Nat.ble _ _<;>(rw[hb]at gS;cases gS)
        ·cases gS
       |pn=>simp[jV]at gS
       |ot=>simp[jV]at gS
      |cons c' nF=>rw[hc]at gS;simp[fG]at gS
   obtain⟨rfl,mL,z,lh⟩:=rK
   have cA:aJ cf ρ g nv [.prim (.row sz off [true]) [s.x,i] 1]:=by
    simp only[uJ,aC,Vbl]at h;subst h;exact hs
   refine dO hR hd h hs fun hg d hpr=>?_
   obtain⟨d',h1,h2⟩:=gJ cA hg;simp only[Wbe,Wbu]at hpr h1
   obtain⟨vs,h3,h4,b,h5,h6⟩:=main [true] [d'] (fun j c hc _=>by
    rw[lh]at hc
    cases j with
    |zero=>rfl
    | succ j => simp at hc) (by rw [lh]; rfl) hg h1 (fun j d hj => by
     cases j with
     |zero=>simp only[Vbv,Vbl]at hj;rw[<- hj];exact h2
     |succ j=>simp at hj)
   obtain⟨v,hv⟩:=Dao gS h3.len;have h7:=tZ gS h3 hv;simp only[dC,aB]at h7;refine⟨v,?_,hex ?_⟩
   ·rw[h2]at h7
    rw[h1]at hpr;simp only[Vbl,Xbh,and_true]at hpr;exact hpr▸h7
   ·rw[h5]
    exact Das (kV f b vs h4 h6 hv)
  ·rename_i sv _ gS
   refine dX hR hd h hs fun hg cA=>?_
   obtain⟨ds,h1,h2,h3⟩:=step1 cA hg;simp only[Wbe,Wbu]at h1;obtain⟨vs,h4,h5,b,h6,h7⟩:=main _ ds (fun j c hc k9=>by rw[Wbs,hc];simp[k9]) (by simp) hg h1 h3;obtain⟨v,hv⟩:=Dao gS h4.len;refine⟨v,tZ gS h4 hv,hex ?_⟩;rw[h6];exact Das (kV f b vs h5 h7 hv)
  ·cases h
 ·cases h
end
section
variable {P:Program} {E:Env} {F:bK} {σ:Nat->Option aQ} {ρ:List D} {a:Act} {w w':World} {G:Gh} {g:Option (aI×Bool)} {o:Oper} {cf:Nat->List D->Option (List D)} {Q:Exit->Act->World->Prop} {next:Act->World->Prop}
theorem Iap:∀ {rs:List (List D)} {l:List UInt8},bytesOf rs=some l->∃ ns:List Int,rs=ns.map (fun n=>[D.int .u8 n])/\l=ns.map fun n=>UInt8.ofNat n.toNat
 | [], l, h => by
  simp only[bytesOf,Vbl]at h;exact⟨[],rfl,h.symm⟩
 | r :: rs, l, h => by
  unfold bytesOf at h;split at h
  ·rename_i hh;cases hh
  ·rename_i n r' hh
   obtain⟨rfl,rfl⟩:=Zbd hh;simp only[Vb4]at h;obtain⟨l',h1,rfl⟩:=h;obtain⟨ns,rfl,rfl⟩:=Iap h1;exact⟨n::ns,rfl,rfl⟩
  ·cases h
theorem Vag (hR:R E.ntmps F σ ρ a w G)(hd:fQ E.ntmps o)(hti:vV P E.ti){nv:Nat}{src dst:TypeId}{x:Operand}(ho:o.op=.convert src dst x){res:bS}{s d ei:TI}{e:Nat}
  (ke:E.ti src=some s) (he:s.elem=some e) (tn:E.ti e=some ei) (hk:Pbl ei.ik=true) (im:E.ti dst=some d) (hdS:d.isStr=true)
  {l:aP} {r:SlR} (h1:(rdL E g src x).eval σ=some l) (h2:(yH l).eval σ=some r)
  (h:(uJ o g nv .bstr [r.x]).eval σ=some res) (hs:aJ cf ρ g nv res.lets):gW P E F σ ρ a w g o Q res.upd:=by
 refine dO hR hd h hs fun hg z hp=>?_
 obtain⟨i1,u1,f1⟩:=aW (hti.ok _ _ ke);obtain⟨i2,u2,f2⟩:=aW (hti.ok _ _ im);obtain⟨i3,u3,f3⟩:=aW (hti.ok _ _ tn);obtain rfl:=rJ f1 he;obtain rfl:=Dap f2 hdS
 have e3:u3=.int .u8:=by
  unfold Pbl at hk;split at hk
  ·rename_i k jx
   simp only[Obu,decide_eq_true_eq]at hk;have:=f3.ik.symm.trans jx;unfold Obp at this;split at this
   ·rw[Wbk this,hk]
   ·cases this
  ·cases hk
 subst e3;have hl:=(eH hR h2 (fV hR hg h1)).rd;simp only[Wbe,Wbu]at hp;generalize r.x.val ρ=xv at hp hl;cases xv<;>simp only[aT.run]at hp<;>first|cases hp|skip
 rename_i sz rs;simp only[Vb4,Xbh,and_true]at hp;obtain⟨bs,hb,rfl⟩:=hp;obtain⟨ns,rfl,rfl⟩:=Iap hb;obtain⟨A,b,n,c,vs,e1,e2,e3,e4,e5,e6,e7⟩:=hl.inv;refine⟨_,.str _,?_⟩;unfold execOp;simp only[ho];refine gG ?_;rw[e1,run_convert_bytes_string w src dst e A n c f1.und f3.und f2.und]
 cases A with
 | none =>
  have:n=0:=by
   rcases e4 with e4|e4
   ·exact e4
   ·cases e4
  subst this;simp only[Wbm]at e2;obtain rfl:=Xbi e2;simp[Conv.bytesToString];rfl
 | some b' =>
  have sC:(loadCells b' n).run P w=.ok (ns.map (Value.int .u8)).toArray w:=by
   simp only[Wbm]at e2
   have:=run_loadCells_list (P:=P) w b' (ns.map (Value.int .u8)) (fun j v hj=>by
    simp only[Wbs,Vb4]at hj;obtain⟨m,hm,rfl⟩:=hj;have hr:(ns.map fun n=>[D.int .u8 n])[j]?=some [D.int .u8 m]:=by rw[Wbs,hm];rfl
    have h9:=e6 j _ hr 0 _ rfl;have da:=(e7 j _ hr 0 _ rfl).sc_inv rfl
    have dh:sz=1:=by
     have:=e5 _ (Vb3 hr);simpa using this.symm
    have ja:j<ns.length:=(Vbn.1 hm).1
    have fg:b'=b:=by
     rcases e4 with e4|e4
     ·omega
     ·exact Wbk e4
    subst fg dh;rw[da.int_inv]at h9;simpa using h9.2)
   simpa[e2] using this
  rw[run_bytesToString w b' n c ns sC,foldl_push_bytes];simp[ByteArray.empty,ByteArray.emptyWithCapacity];rfl
theorem Na5 (hR:R E.ntmps F σ ρ a w G)(hd:fQ E.ntmps o)(hti:vV P E.ti){nv:Nat}{src dst:TypeId}{x:Operand}(ho:o.op=.convert src dst x){res:bS}{s d:TI}
  (ke:E.ti src=some s) (hsS:s.isStr=true) (im:E.ti dst=some d) (hdS:d.isStr=true) {x':aI} (h1:(rdA E g src x).eval σ=some x')
  (h:(uJ o g nv .sid [x']).eval σ=some res) (hs:aJ cf ρ g nv res.lets):gW P E F σ ρ a w g o Q res.upd:=by
 refine dO hR hd h hs fun hg z hp=>?_
 obtain⟨i1,u1,f1⟩:=aW (hti.ok _ _ ke);obtain⟨i2,u2,f2⟩:=aW (hti.ok _ _ im);obtain rfl:=Dap f1 hsS;obtain rfl:=Dap f2 hdS;have hl:=jO hR hg h1;simp only[Wbe,Wbu]at hp;generalize x'.val ρ=xv at hp hl;cases xv<;>simp only[aT.run]at hp<;>first|cases hp|skip
 refine⟨_,.str _,?_⟩;unfold execOp;simp only[ho,hl.str_inv];refine gG ?_;simp only[convert,Sem.run_bind,run_underlying f1.und,run_underlying f2.und,Result.andThen_ok];rfl
theorem Kaf {is:Bool}{len cap:Nat}{lo hi:Option Value}{kl kh:IntKind}{l h:Int}(mB:(lo=none/\l=0)\/lo=some (.int kl l))(r6:(hi=none/\h=len)\/(hi=some (.int kh h)/\h<=cap))(h0:0<=l)(h1:l<=h) :
  (Instr.sliceBounds is len cap lo hi none).run P w=.ok (l.toNat,h.toNat,cap) w:=by
 rcases r6 with ⟨rfl,rfl⟩|⟨rfl,hc⟩<;>rcases mB with ⟨rfl,rfl⟩|rfl
 ·simp[Instr.sliceBounds]
 ·have e2:0<=l/\l<=(len:Int):=⟨h0,by omega⟩
  simp[Instr.sliceBounds,Instr.sliceBound,asIntOf,e2]
 ·have e1:0<=h/\h<=(cap:Int):=⟨by omega,hc⟩
  simp[Instr.sliceBounds,Instr.sliceBound,asIntOf,e1]
 ·have e1:0<=h/\h<=(cap:Int):=⟨by omega,hc⟩
  have e2:0<=l/\l<=(h.toNat:Int):=⟨h0,by omega⟩;have e3:0<=l/\l<=max h 0:=⟨h0,by omega⟩;simp[Instr.sliceBounds,Instr.sliceBound,asIntOf,e1,e2,e3]
theorem Uas {ei:TI}{lo fl:Bool}{s:SlR}{p:Pth}(h:Jau ei lo s=(p,fl)):(p=.no) \/
  (p=.view/\∃ r k m q,s.own=some (r,k,m,q)/\(q=.path []\/q=.view)/\(m=1\/lo=false\/fl=true)):=by
 unfold Jau at h
 have one:∀ m:Nat,(bif Nat.beq m 1||!lo then (Pth.view,false) else bif Nak ei.cells then (Pth.view,true) else (Pth.no,false))=(p,fl)->p=.no\/(p=.view/\(m=1\/lo=false\/fl=true)):=by
  intro m h
  cases hb:(Nat.beq m 1||!lo) with
  | true =>
   rw[hb]at h;simp only[cond_true,Wbd]at h;simp only[Wb9,Wbl,Vb9]at hb;exact .inr ⟨h.1.symm,hb.imp id .inl⟩
  | false =>
   rw[hb]at h
   cases hn:Nak ei.cells with
   | true =>
    rw[hn]at h;simp only[cond_false,cond_true,Wbd]at h;exact .inr ⟨h.1.symm,.inr (.inr h.2.symm)⟩
   | false =>
    rw[hn]at h;simp only[cond_false,Wbd]at h;exact .inl h.1.symm
 split at h
 ·rename_i r k m ho
  exact (one _ h).imp id fun ⟨h1,h2⟩=>⟨h1,_,_,_,_,ho,.inl rfl,h2⟩
 ·rename_i r k m ho
  exact (one _ h).imp id fun ⟨h1,h2⟩=>⟨h1,_,_,_,_,ho,.inr rfl,h2⟩
 ·simp only[Wbd]at h
  exact .inl h.1.symm
theorem Qa6 {sz:Nat}{fl:Bool}{x i j:D}{ds:List D}(h:(aT.sub sz fl).run [x,i,j]=some ds) :
  ∃ rs ki kj lo hi,x=.rows sz rs/\i=.int ki lo/\j=.int kj hi/\(fl=true->∀ r∈rs,∀ d∈r,d.isSc=true)/\0<=lo/\lo<=hi/\hi<=rs.length/\ds=[.rows sz ((rs.take hi.toNat).drop lo.toNat)]:=by
 cases x<;>cases i<;>cases j<;>simp only[aT.run]at h<;>first|cases h|skip
 split at h
 ·rename_i h1
  obtain⟨rfl,h1,h2,h3,h4⟩:=h1;simp only[Vbl]at h;refine⟨_,_,_,_,_,rfl,rfl,rfl,fun hf=>?_,h2,h3,h4,h.symm⟩;rw[hf]at h1;simp only[Bool.not_true,Bool.false_or,Wbg]at h1;exact fun r hr d hd=>h1 r hr d hd
 ·cases h
theorem Lap {rs:List (List D)}{lo hi i:Nat}{r:List D}(h:((rs.take hi).drop lo)[i]?=some r):rs[lo+i]?=some r/\lo+i<hi:=by
 rw[Wbt,Wbw]at h;split at h
 ·rename_i hl;exact⟨h,hl⟩
 ·cases h
theorem Rd.part {ok:Nat->Prop}{A:Option Addr}{n c sz:Nat}{rs:List (List D)}(h:Rd ok w (.slice A n c) (.rows sz rs)){lo hi:Nat}(h1:lo<=hi)(h2:hi<=n) :
  Rd ok w (.slice (if c=lo then A else A.map (·.add (lo*sz))) (hi-lo) (c-lo)) (.rows sz ((rs.take hi).drop lo)):=by
 obtain⟨A',b,n',c',vs,e1,e2,e3,e4,e5,e6,e7⟩:=h.inv;obtain⟨rfl,rfl,rfl⟩:A=A'/\n=n'/\c=c':=by injection e1 with a b c;exact⟨a,b,c⟩
 refine .rows _ (b.add (lo*sz)) _ _ sz _ (fun i j=>vs (lo+i) j) (by simp;omega) (by omega) ?_ (fun r hr=>?_) (fun i r gq j d hj=>?_) (fun i r gq j d hj=>?_)
 ·by_cases hz:hi-lo=0
  ·exact .inl hz
  ·refine .inr ?_
   have hA:A=some b:=e4.resolve_left (by omega);rw[if_neg (by omega),hA];rfl
 ·exact e5 r (Yba (Xbj hr))
 ·obtain⟨h3,h4⟩:=Lap gq
  obtain⟨h5,h6⟩:=e6 _ _ h3 _ _ hj;refine⟨by rw[add_block];exact h5,?_⟩;rw[add_add,show lo*sz+(i*sz+j)=(lo+i)*sz+j by rw[Nat.add_mul,Vb8]];exact h6
 ·obtain⟨h3,h4⟩:=Lap gq
  exact e7 _ _ h3 _ _ hj
theorem Rp.sc_inv {own:Nat->Ow}{r m:Nat}{p:List Nat}{v:Value}{d:D}(h:Rp own w r p m v d)(hd:d.isSc=true):Sc v d:=by
 cases h with
 |sc h=>exact h
 |hole=>simp[D.isSc]at hd
 |fz h=>exact h.sc_inv hd
 |sl=>simp[D.isSc]at hd
theorem Rp.part {own:Nat->Ow}{r m:Nat}{p:List Nat}{A:Option Addr}{n c sz:Nat}{rs:List (List D)}(h:Rp own w r p m (.slice A n c) (.rows sz rs)){lo hi:Nat}(h1:lo<=hi)(h2:hi<=n)
  (hc:m=1\/lo=0\/∀ r∈rs,∀ d∈r,d.isSc=true) :
  Rp own w r p m (.slice (if c=lo then A else A.map (·.add (lo*sz))) (hi-lo) (c-lo)) (.rows sz ((rs.take hi).drop lo)):=by
 generalize hv:Value.slice A n c=v at h;generalize hx:D.rows sz rs=x at h
 cases h with
 |sc h=>subst hx;cases h
 |hole=>cases hx
 |fz h=>subst hv hx;exact .fz (h.part h1 h2)
 | sl A' b n' c' nk rs' vs hn ij hA dh cu cE cR =>
  obtain⟨rfl,rfl,rfl⟩:A=A'/\n=n'/\c=c':=by injection hv with a b c;exact⟨a,b,c⟩
  obtain⟨rfl,rfl⟩:sz=nk/\rs=rs':=by injection hx with a b;exact⟨a,b⟩
  rename_i m';refine .sl _ (if c=lo then b else b.add (lo*sz)) _ _ sz _ (fun i j=>vs (lo+i) j) (by simp;omega) (by omega) ?_ (fun r hr=>?_) (fun e=>?_) (fun i r' gq j d hj=>?_) (fun i r' gq j d hj=>?_)
  ·rcases hA with hA|⟨hA,h0⟩
   ·refine .inl ?_
    rw[hA];by_cases h:c=lo
    ·rw[if_pos h,if_pos h]
    ·rw[if_neg h,if_neg h];rfl
   ·refine .inr ⟨?_,by omega⟩
    rw[hA];split<;>rfl
  ·exact dh r (Yba (Xbj hr))
  ·have xj:A=some b:=by
    rcases hA with hA|⟨hA,h0⟩
    ·exact hA
    ·rw[hA]at e
     split at e<;>cases e
   obtain⟨h3,h4,h5⟩:=cu xj;by_cases h:c=lo
   ·rw[if_pos h]
    exact⟨h3,h4,fun k hk=>by rw[h,Nat.sub_self,Nat.zero_mul]at hk;omega⟩
   ·rw[if_neg h]
    refine⟨?_,by rw[add_block];exact h4,fun k hk=>?_⟩
    ·unfold Addr.add;split
     ·exact h3
     ·rfl
    ·rw[add_add]
     refine h5 _ ?_;rw[Nat.sub_mul]at hk;omega
  ·obtain⟨h3,h4⟩:=Lap gq
   rw[if_neg (by omega),add_add,show lo*sz+(i*sz+j)=(lo+i)*sz+j by rw[Nat.add_mul,Vb8]];exact cE _ _ h3 _ _ hj
  ·obtain⟨h3,h4⟩:=Lap gq
   have:=cR _ _ h3 _ _ hj
   rcases hc with hc|hc|hc
   ·obtain rfl:m'=0:=by omega
    exact .fz this.zero
   ·subst hc
    simpa using this
   ·exact .sc (this.sc_inv (hc r' (Vb3 h3) d (Vb3 hj)))
theorem wG {t e:TypeId}{x:Operand}{lo hi:Option Operand}(ho:o.op=.slice t x lo hi none)(hu:P.underlying t=some (.slice e)){size:Nat}(dh:(sizeOf e).run P w=.ok size w)
  {A:Option Addr} {n c:Nat} (hx:a.eval x=.slice A n c) {kl kh:IntKind} {l h:Int} (mB:(lo=none/\l=0)\/lo.map a.eval=some (.int kl l)) (r6:(hi=none/\h=n)\/(hi.map a.eval=some (.int kh h)/\h<=c)) (h0:0<=l) (h1:l<=h) :
  (execOp a.eval o).run P w=.ok (.value (.slice (if c=l.toNat then A else A.map (·.add (l.toNat*size))) (h.toNat-l.toNat) (c-l.toNat))) w:=by
 unfold execOp;simp only[ho];refine gG ?_;have hb:=Kaf (P:=P) (w:=w) (is:=true) (len:=n) (cap:=c) (lo:=lo.map a.eval) (hi:=hi.map a.eval) (kl:=kl) (kh:=kh) (l:=l) (h:=h) (mB.imp (fun ⟨h1,h2⟩=>⟨by rw[h1];rfl,h2⟩) id) (r6.imp (fun ⟨h1,h2⟩=>⟨by rw[h1];rfl,h2⟩) id) h0 h1;simp only[Instr.sliceAt,Instr.slice,Sem.run_bind,run_underlying hu,Result.andThen_ok,hx,Option.map_none,hb,dh,Sem.run_pure]
end
section
variable {P:Program} {E:Env} {F:bK} {σ:Nat->Option aQ} {ρ:List D} {a:Act} {w w':World} {G:Gh} {g:Option (aI×Bool)} {o:Oper} {cf:Nat->List D->Option (List D)} {Q:Exit->Act->World->Prop} {next:Act->World->Prop}
theorem vM {g:Option (aI×Bool)}(h:noG g=true):g=none:=by
 cases g with
 |none=>rfl
 |some _=>cases h
theorem Ba5 {p:aT}{xs:List aI}{nv:Nat}(h:Uap cf ρ g nv (.prim p xs 1))(hg:gOn ρ g=true) :
  ∃ d,p.run (xs.map (·.val ρ))=some [d]/\(aI.v nv).val ρ=d:=gJ (cf:=cf) (nv:=nv) ⟨h,trivial⟩ hg
theorem Bar {t:TypeId}{x:Operand}{lo hi:Option Operand}(ho:o.op=.slice t x lo hi none)(hu:P.underlying t=some .string)
  {s:List UInt8} (hx:a.eval x=.string ⟨s.toArray⟩) {kl kh:IntKind} {l h:Int} (mB:(lo=none/\l=0)\/lo.map a.eval=some (.int kl l)) (r6:(hi=none/\h=s.length)\/(hi.map a.eval=some (.int kh h)/\h<=s.length)) (h0:0<=l) (h1:l<=h) :
  (execOp a.eval o).run P w=.ok (.value (.string ⟨((s.take h.toNat).drop l.toNat).toArray⟩)) w:=by
 unfold execOp;simp only[ho];refine gG ?_;have hb:=Kaf (P:=P) (w:=w) (is:=false) (len:=s.length) (cap:=s.length) (lo:=lo.map a.eval) (hi:=hi.map a.eval) (kl:=kl) (kh:=kh) (l:=l) (h:=h) (mB.imp (fun ⟨h1,h2⟩=>⟨by rw[h1];rfl,h2⟩) id) (r6.imp (fun ⟨h1,h2⟩=>⟨by rw[h1];rfl,h2⟩) id) h0 h1;have hlen:(⟨s.toArray⟩:ByteArray).size=s.length:=rfl;simp only[Instr.sliceAt,Instr.slice,Sem.run_bind,run_underlying hu,Result.andThen_ok,hx,Option.map_none,Option.isSome_none,Vbm,if_false,hlen,hb,Sem.run_pure];congr 2;apply ByteArray.ext;rw[ByteArray.data_extract];apply Zbc;simp[List.drop_take,List.extract]
theorem Taf {x i j:D}{ds:List D}(h:aT.ssub.run [x,i,j]=some ds) :
  ∃ s ki kj lo hi,x=.str s/\i=.int ki lo/\j=.int kj hi/\0<=lo/\lo<=hi/\hi<=s.length/\ds=[.str ((s.take hi.toNat).drop lo.toNat)]:=by
 cases x<;>cases i<;>cases j<;>simp only[aT.run]at h<;>first|cases h|skip
 split at h
 ·rename_i h1
  simp only[Vbl]at h;exact⟨_,_,_,_,_,rfl,rfl,rfl,h1.1,h1.2.1,h1.2.2,h.symm⟩
 ·cases h
theorem Taw {lo:Bool}{s:SlR}{ei:TI}{p:Pth}{fl:Bool}(xi:Jau ei lo s=(p,fl)){A:Option Addr}{n c sz:Nat}(gC:Wav σ ρ G w s (.slice A n c)){rs:List (List D)}(hx:s.x.val ρ=.rows sz rs)
  {l h:Nat} (h1:l<=h) (h2:h<=n) (mB:lo=false->l=0) (gA:fl=true->∀ r∈rs,∀ d∈r,d.isSc=true) {y:aI} (hy:y.val ρ=.rows sz ((rs.take h).drop l)) :
  aB σ ρ G w (.sn s.deps p false y) (.slice (if c=l then A else A.map (·.add (l*sz))) (h-l) (c-l)):=by
 simp only[aB];refine⟨⟨rfl,fun z hz=>?_⟩,fun _=>⟨?_,by simp,?_⟩⟩
 ·obtain⟨m,hl⟩:=gC.live z hz
  exact hl.valid.known
 ·rw[hy]
  exact Rd.part (hx▸gC.rd) h1 h2
 ·rcases Uas xi with rfl|⟨rfl,r,k,m,q,ho,hq,hc⟩
  ·trivial
  ·intro r2 k2 m2 e2 kb
   have cu:=gC.own;unfold vQ at cu;rw[ho]at cu;obtain⟨h3,⟨x1,h4⟩,h5⟩:=cu;rw[h3]at e2;obtain⟨rfl,rfl⟩:r=r2/\k=k2:=by simpa using e2
   obtain⟨x2,wc⟩:=kb;rw[h4]at wc;obtain rfl:m=m2:=by injection wc with wc;injection wc
   have fR:Rp G.own w r [] m (.slice A n c) (.rows sz rs):=by
    rw[<- hx]
    rcases hq with rfl|rfl
    ·simpa[bB] using h5.2.1
    ·exact h5
   rw[hy];refine fR.part h1 h2 ?_
   rcases hc with hc|hc|hc
   ·exact .inl hc
   ·exact .inr (.inl (mB hc))
   ·exact .inr (.inr (gA hc))
theorem Yae {lo:Bool}{s:SlR}{ei:TI}{p:Pth}{fl:Bool}(xi:Jau ei lo s=(p,fl)){A:Option Addr}{n c sz:Nat}(gC:Wav σ ρ G w s (.slice A n c)){rs:List (List D)}(hx:s.x.val ρ=.rows sz rs)
  {l:Nat} (h1:l<=n) (mB:lo=false->l=0) (gA:fl=true->∀ r∈rs,∀ d∈r,d.isSc=true) {y:aI} (hy:y.val ρ=.rows sz ((rs.take n).drop l)) {lx:aI} (hl:lN ρ lx=l) :
  aB σ ρ G w (.sn s.deps (Gba p sz lx s) false y) (.slice (if c=l then A else A.map (·.add (l*sz))) (n-l) (c-l)):=by
 have h0:=Taw xi gC hx h1 (Nat.le_refl n) mB gA hy;unfold Gba;split
 ·rename_i r k m ho
  simp only[aB]at h0 ⊢;refine⟨h0.1,fun hv=>⟨(h0.2 hv).1,(h0.2 hv).2.1,?_⟩⟩;intro r2 k2 m2 e2 kb;have cu:=gC.own;unfold vQ at cu;rw[ho]at cu;obtain⟨h3,-,-,-,h5⟩:=cu;rw[h3]at e2;obtain⟨rfl,rfl⟩:r=r2/\k=k2:=by simpa using e2
  simp only[bB,Wbu,zO]at h5;exact⟨A,n,c,h5.symm,by rw[hl];exact h1,by rw[hl]⟩
 ·exact h0
theorem Ba0 (hR:R E.ntmps F σ ρ a w G)(hg:gOn ρ g=true){lo:Option Operand}{y:aI}
  (h:(match lo with|some a=>rdA E g 0 a|none=>RdM.ret (.c (.int .i64 0)):RdM aI).eval σ=some y) {k:IntKind} {l:Int} (hy:y.val ρ=.int k l) :
  (lo=none/\l=0)\/lo.map a.eval=some (.int k l):=by
 split at h
 ·rename_i x
  have:=jO hR hg h;rw[hy]at this;exact .inr (by rw[Wb5,this.int_inv])
 ·simp only[aC,Vbl]at h
  subst h;simp only[aI.val,D.int.injEq]at hy;exact .inl ⟨rfl,hy.2.symm⟩
theorem Raa (hR:R E.ntmps F σ ρ a w G)(hd:fQ E.ntmps o)(hti:vV P E.ti){nv nb nr:Nat}{mv dw:Bool}{t:TypeId}{x:Operand}{lo hi mx:Option Operand}(ho:o.op=.slice t x lo hi mx){res:bS}
  (h:(qP E mv dw nv nb nr g o).eval σ=some res) (hs:aJ cf ρ g nv res.lets):gW P E F σ ρ a w g o Q res.upd:=by
 simp only[qP,ho]at h
 cases mx with
 | some _ =>
  simp only[aA,Vbj]at h;obtain⟨_,_,h⟩:=h;cases h
 |none =>
 simp only[aA,Vbj,tiR,aV]at h;obtain⟨ti,ou,l,h1,vi,h2,h⟩:=h;obtain⟨info,u,f⟩:=aW (hti.ok _ _ ou);split at h
 ·rename_i s
  simp only[aA,Vbj,aH]at h;obtain⟨_,gi,h⟩:=h;split at gi
  ·rename_i hb
   simp only[Vbk]at hb;obtain rfl:=Dap f hb.1;split at h
   ·rename_i h'
    simp only[aA,Vbj]at h;obtain⟨hA,h3,h⟩:=h;refine dO hR hd h hs fun hg d hp=>?_
    simp only[Wbe,Wbu]at hp;obtain⟨s',ki,kj,li,gq,e1,e2,e3,e4,e5,e6,e7⟩:=Taf hp;simp only[Xbh,and_true]at e7;have hx:=fV hR hg h1;simp only[aB,e1]at hx;have hh:=jO hR hg h3;rw[e3]at hh;refine⟨_,e7▸.str _,Bar ho f.und hx.str_inv (Ba0 hR hg h2 e2) (.inr ⟨by rw[Wb5,hh.int_inv],e6⟩) e4 e5⟩
   ·obtain rfl:g=none:=vM (by simpa using hb.2)
    simp only[aC,Vbl]at h;subst h;simp only[Fai];refine⟨fun hg=>?_,fun hg=>by simp[gOn]at hg⟩;obtain⟨d1,h4,h5⟩:=Ba5 hs.1 hg;obtain⟨d2,h6,h7⟩:=Ba5 hs.2.1 hg;simp only[Wbe,Wbu,Step.n]at h4 h6 h7;obtain⟨s',ki,kj,li,gq,e1,e2,e3,e4,e5,e6,e7⟩:=Taf h6;rw[e1]at h4;simp only[aT.run,Vbl,Xbh,and_true]at h4;rw[h5,<- h4]at e3;obtain⟨-,rfl⟩:IntKind.i64=kj/\(s'.length:Int)=gq:=by injection e3 with a b;exact⟨a,b⟩
    have hx:=fV hR hg h1;simp only[aB,e1]at hx;refine Lat hR hd hg (Bar (kh:=.i64) ho f.und hx.str_inv (Ba0 hR hg h2 e2) (.inl ⟨rfl,rfl⟩) e4 e5) ?_;rw[h7];simp only[Xbh,and_true]at e7;rw[e7];exact .str _
  ·cases gi
 ·simp only[aA,Vbj,aH]at h
  obtain⟨_,gi,s,h3,ei,h4,h⟩:=h;split at gi
  ·rename_i hel
   cases hel':ti.elem with
   |none=>rw[hel']at hel;cases hel
   |some e =>
   obtain rfl:=rJ f hel';rw[hel',Option.getD_some,aV]at h4;obtain⟨jt,u',f'⟩:=aW (hti.ok _ _ h4);generalize xi:Jau ei lo.isSome s=pf at h;obtain⟨p,fl⟩:=pf;dsimp only at h;split at h
   ·rename_i h'
    simp only[aA,Vbj]at h;obtain⟨hA,h5,h⟩:=h;split at h
    ·rename_i dp pp z _
     refine dX hR hd h hs fun hg cA=>?_
     obtain⟨d,h6,h7⟩:=gJ cA hg;simp only[Wbe,Wbu]at h6;obtain⟨rs,ki,kj,li,gq,e1,e2,e3,e4,e5,e6,e7,e8⟩:=Qa6 h6;have hl:=fV hR hg h1;have hh:=jO hR hg h5;rw[e3]at hh
     have hz:s.x=.c (.rows z []):=by
      unfold yH at h3;simp only[aA,Vbj]at h3;obtain⟨ds,-,h3⟩:=h3;split at h3
      ·simp only[aC,Vbl]at h3;rw[<- h3]
      ·simp only[aA,aR,Vbs]at h3
       split at h3
       ·simp only[aC,Vbl]at h3;rw[<- h3]
       ·cases h3
      ·simp only[aC,Vbl]at h3;rw[<- h3]
     have fx:a.eval x=.slice none 0 0:=by
      unfold yH at h3;simp only[aA,Vbj]at h3;obtain⟨ds,h3,-⟩:=h3;have km:=hl;simp only[aB]at km;exact (km.2 (jC h3).1).2.1 trivial z rfl
     rw[hz]at e1
     obtain⟨-,rfl⟩:z=ei.size/\[]=rs:=by
      simp only[aI.val]at e1
      injection e1 with a b;exact⟨a,b⟩
     have zE:li=0:=by simp at e7;omega
     have r6:gq=0:=by simp at e7;omega
     subst zE r6;refine⟨a.eval x,hl,?_⟩;rw[wG (kh:=kj) (kl:=ki) (l:=0) (h:=0) ho f.und (f'.sizeOf w) fx (Ba0 hR hg h2 e2) (.inr ⟨by rw[Wb5,hh.int_inv],by simp⟩) (by omega) (by omega),fx];rfl
    ·refine dX hR hd h hs fun hg cA=>?_
     obtain⟨d,h6,h7⟩:=gJ cA hg;simp only[Wbe,Wbu]at h6;obtain⟨rs,ki,kj,li,gq,e1,e2,e3,e4,e5,e6,e7,e8⟩:=Qa6 h6;have hh:=jO hR hg h5;rw[e3]at hh;have gC:=eH hR h3 (fV hR hg h1);have jc:=gC.rd;rw[e1]at jc;obtain⟨A,b,n,c,vs,i1,i2,i3,-⟩:=jc.inv;rw[i1]at gC;have mB:=Ba0 hR hg h2 e2;refine⟨_,?_,wG (kh:=kj) ho f.und (f'.sizeOf w) i1 mB (.inr ⟨by rw[Wb5,hh.int_inv],by omega⟩) e5 e6⟩;refine Taw xi gC e1 (by omega) (by omega) (fun hf=>?_) e4 ?_
     ·rcases mB with ⟨-,nc⟩|nc
      ·rw[nc];rfl
      ·cases lo with
       |none=>simp at nc
       |some _=>simp at hf
     ·rw[h7]
      simpa using e8
   ·refine dX hR hd h hs fun hg cA=>?_
    obtain⟨d1,vp,h5⟩:=Ba5 cA.1 hg;obtain⟨d2,h6,h7⟩:=Ba5 cA.2.1 hg;simp only[Wbe,Wbu,Step.n]at vp h6 h7;obtain⟨rs,ki,kj,li,gq,e1,e2,e3,e4,e5,e6,e7,e8⟩:=Qa6 h6;rw[e1]at vp;simp only[aT.run,Vbl,Xbh,and_true]at vp;rw[h5,<- vp]at e3;obtain⟨-,rfl⟩:IntKind.i64=kj/\(rs.length:Int)=gq:=by injection e3 with a b;exact⟨a,b⟩
    have gC:=eH hR h3 (fV hR hg h1);have jc:=gC.rd;rw[e1]at jc;obtain⟨A,b,n,c,vs,i1,i2,i3,-⟩:=jc.inv;rw[i1]at gC;have mB:=Ba0 hR hg h2 e2;refine⟨_,?_,wG (kh:=.i64) ho f.und (f'.sizeOf w) i1 mB (.inl ⟨rfl,by rw[i2]⟩) e5 e6⟩;have mf:lN ρ vi=li.toNat:=by unfold lN;rw[e2]
    have hln:((rs.length:Nat):Int).toNat=n:=by rw[Int.toNat_natCast];exact i2
    rw[hln];refine Yae (lx:=vi) xi gC e1 (l:=li.toNat) (by omega) (fun hf=>?_) e4 ?_ mf
    ·rcases mB with ⟨-,nc⟩|nc
     ·rw[nc];rfl
     ·cases lo with
      |none=>simp at nc
      |some _=>simp at hf
    ·rw[h7,List.take_of_length_le (by omega:rs.length<=n)]
     simpa using e8
  ·cases gi
end
end Go.Proofs.YtgpamlpecmldfaaGreat.Rf
