/- Terms for s6 program's functions, and nj they are right: part 2 of 10. -/
import Derived.Test.YtcbkmmhkccnamaaGreatRf1
import Derived.WalkKit
import Derived.Laws.StructEq
import Derived.Laws.BytesArg
open Array renaming ext' → Cc5
open Bool renaming and_eq_true → Zbd, false_eq_true → Zbg, not_eq_true' → Zb3, or_eq_true → Acp
open List renaming getElem?_eq_getElem → Zbf, getElem?_cons_zero → Zbl, mem_cons_of_mem → Zbn, mem_singleton → Zbp, length_map → Zbt, mem_cons_self → Zbu, mem_of_getElem? → Zbv, length_take → Zb1, getElem?_map → Zb2, append_nil → Zb4, map_cons → Zb5, all_eq_true → Zb6, map_nil → Acb, getElem?_drop → Acg, getElem?_cons_succ → Acl, getElem?_take → Acs, eq_nil_of_length_eq_zero → Acu, length_drop → Acv, getElem?_eq_none → Ac0, length_singleton → Ac1, map_append → Ac8, mem_of_mem_take → Ac9, cons_append → Bch, mem_of_mem_drop → Bcs
open Nat renaming lt_or_ge → Zbz, add_assoc → Zb0, beq_eq → Zb8, zero_add → Aca, ble_eq → Acr
open Option renaming bind_eq_some_iff → Zbc, bind_some → Zbj, map_eq_some_iff → Zbo, map_some → Acm
set_option linter.unusedSimpArgs false
set_option linter.unusedVariables false
set_option linter.unnecessarySimpa false
set_option linter.unusedSectionVars false
namespace Go.Proofs.YtcbkmmhkccnamaaGreat.Rf
theorem RdM.run_eval {α:Type}{look:Nat->Option aS}{m:RdM α}{x:α}{log:List Nat}(h:m.run look=some (x,log)):m.eval look=some x:=by
 induction m generalizing log with
 | ret a =>
  simp only[RdM.run,Option.some.injEq,Prod.mk.injEq]at h;rw[h.1];rfl
 |no=>cases h
 | rd k f ih =>
  simp only[RdM.run,Zbo]at h;obtain⟨⟨y,l⟩,h1,h2⟩:=h;simp only[Prod.mk.injEq]at h2;obtain⟨rfl,_⟩:=h2;exact ih _ h1
theorem RdM.run_same {α:Type}{look yq:Nat->Option aS}{m:RdM α}{x:α}{log:List Nat}(h:m.run look=some (x,log))(hs:∀ k∈log,yq k=look k):m.run yq=some (x,log):=by
 induction m generalizing log with
 |ret a=>exact h
 |no=>cases h
 | rd k f ih =>
  simp only[RdM.run,Zbo]at h ⊢;obtain⟨⟨y,l⟩,h1,h2⟩:=h;simp only[Prod.mk.injEq]at h2;obtain⟨rfl,rfl⟩:=h2;refine⟨(y,l),?_,rfl⟩;rw[hs k Zbu];exact ih _ h1 fun j hj=>hs j (Zbn _ hj)
section
variable {α γ:Type} {look:Nat->Option aS}
theorem aF (a:α):(RdM.ret a).eval look=some a:=rfl
theorem bQ:(RdM.no:RdM α).eval look=none:=rfl
theorem Bbm (k:Nat)(f:Option aS->RdM α):(RdM.rd k f).eval look=(f (look k)).eval look:=rfl
theorem aA (m:RdM α)(f:α->RdM γ):(m >>= f).eval look=(m.eval look).bind fun x=>(f x).eval look:=by
 show (RdM.bind m f).eval look=_
 induction m with
 |ret a=>rfl
 |no=>rfl
 |rd k g ih=>exact ih _
theorem aT (k:Nat):(rdK k).eval look=some (look k):=rfl
theorem aW (x:Option α):(nL x).eval look=x:=by cases x<;>rfl
theorem aK (b:Bool):(bM b).eval look=if b=true then some () else none:=by cases b<;>rfl
theorem iA (c:Bool)(x y:RdM α):(bif c then x else y).eval look=if c=true then x.eval look else y.eval look:=by cases c<;>rfl
end
def Waf (cf:Nat->List D->Option (List D))(ρ:List D)(g:Option (aL×Bool))(nv:Nat):Step->Prop
 | .prim p xs n => (gOn ρ g = true -> ∃ ds, p.run (xs.map (·.val ρ)) = some ds /\ ds.length = n /\ ∀ j d, ds[j]? = some d -> (aL.v (nv + j)).val ρ = d) /\
   (gOn ρ g=false->∀ j,j<n->(aL.v (nv+j)).val ρ=.undef)
 | .call f xs n olds => (gOn ρ g = true -> ∃ ds, cf f (xs.map (·.val ρ)) = some ds /\ ds.length = n /\ ∀ j d, ds[j]? = some d -> (aL.v (nv + j)).val ρ = d) /\
   (gOn ρ g=false->∀ j d,(List.replicate (n-olds.length) D.undef++olds.map (·.val ρ))[j]?=some d->(aL.v (nv+j)).val ρ=d)
def aN (cf:Nat->List D->Option (List D))(ρ:List D)(g:Option (aL×Bool)):Nat->List Step->Prop
 |_,[]=>True
 |nv,s::r=>Waf cf ρ g nv s/\aN cf ρ g (nv+s.n) r
structure vN (P:Program) (ti:Nat->Option TI):Prop where
 ok:∀ t i,ti t=some i->sV P t=some i
structure dB (P:Program) (t:TypeId) (i:TI) (info:TypeInfo) (u:TypeDesc):Prop where
 info_:P.info? t=some info
 und:P.underlying t=some u
 cells:(flat P 12 t).map (·.map (nS P))=some i.cells
 len:i.cells.length=i.size
 zero:Uaa i.agg info.zero i.cells=true
 eq:i=Sbw P t info u i.cells
theorem aX {P:Program}{t:TypeId}{i:TI}(h:sV P t=some i):∃ info u,dB P t i info u:=by
 unfold sV at h
 cases h1:P.info? t with
 |none=>rw[h1]at h;cases h
 | some info =>
  cases h2:P.underlying t with
  |none=>rw[h1,h2]at h;cases h
  | some u =>
   cases h3:(flat P 12 t).map (·.map (nS P)) with
   |none=>rw[h1,h2,h3]at h;cases h
   | some cs =>
    rw[h1,h2,h3]at h;dsimp only at h
    cases hb:(Nat.beq cs.length info.size&&Uaa (Kas u) info.zero cs) with
    |false=>rw[hb]at h;cases h
    | true =>
     rw[hb]at h;obtain rfl:=Option.some.inj h;simp only[Zbd,Zb8]at hb;exact⟨info,u,h1,h2,h3,hb.1,hb.2,rfl⟩
section
variable {P:Program} {t:TypeId} {i:TI} {info:TypeInfo} {u:TypeDesc}
theorem dB.agg (h:dB P t i info u):i.agg=Kas u:=by rw[h.eq];rfl
theorem dB.size (h:dB P t i info u):i.size=info.size:=by rw[h.eq];rfl
theorem dB.elem (h:dB P t i info u):i.elem=Bbu u:=by rw[h.eq];rfl
theorem dB.flds (h:dB P t i info u):i.flds=Bbj u:=by rw[h.eq];rfl
theorem dB.bytes (h:dB P t i info u):i.bytes=info.bytes:=by rw[h.eq];rfl
theorem dB.ik (h:dB P t i info u):i.ik=Rbr u:=by rw[h.eq];rfl
theorem Pav (h:P.underlying t=some u)(w:World):(Go.isAgg t).run P w=.ok (Kas u) w:=by
 simp only[Go.isAgg,underlying,program,bind,pure,Sem.bind,Sem.run,h];cases u<;>rfl
theorem run_sizeOf (h:P.info? t=some info)(w:World):(Go.sizeOf t).run P w=.ok info.size w:=by
 simp only[Go.sizeOf,typeInfo,program,bind,pure,Sem.bind,Sem.run,h]
theorem run_underlying (h:P.underlying t=some u)(w:World):(Go.underlying t).run P w=.ok u w:=by
 simp only[underlying,program,bind,pure,Sem.bind,Sem.run,h]
theorem dB.isAgg (h:dB P t i info u)(w:World):(Go.isAgg t).run P w=.ok i.agg w:=by rw[Pav h.und,h.agg]
theorem dB.sizeOf (h:dB P t i info u)(w:World):(Go.sizeOf t).run P w=.ok i.size w:=by rw[run_sizeOf h.info_,h.size]
end
theorem D.beq0_eq {a b:D}(h:a.beq0 b=true):a=b:=by
 unfold D.beq0 at h;split at h<;>first|cases h|skip
 ·simp only[Zbd,Rbt,decide_eq_true_eq]at h
  rw[h.1,h.2]
 ·simp only[beq_iff_eq]at h;rw[h]
 ·simp only[beq_iff_eq]at h;rw[h]
 ·simp only[Zb8]at h;rw[h]
 ·rfl
 ·rfl
theorem aL.beq0_eq {a b:aL}(h:a.beq0 b=true):a=b:=by
 unfold aL.beq0 at h;split at h
 ·simp only[Zb8]at h;rw[h]
 ·rw[D.beq0_eq h]
 ·cases h
theorem Tam {g h:Option (aL×Bool)}(e:Kba g h=true):g=h:=by
 unfold Kba at e;split at e
 ·rfl
 ·simp only[Zbd,beq_iff_eq]at e
  rw[aL.beq0_eq e.1,e.2]
 ·cases e
section
variable {P:Program} {E:Env} {F:bH} {σ:Nat->Option aS} {ρ:List D} {a:Act} {w:World} {G:Gh} {g:Option (aL×Bool)}
theorem Ibw (hg:gOn ρ g=true){v:SV}{u:Value}(h:cB σ ρ G w v u):cB σ ρ G w (unG g v) u:=by
 unfold unG;split
 ·rename_i h' x
  cases e:Kba g (some h') with
  |false=>exact h
  | true =>
   simp only[cB,aB,cond_true]at h ⊢;exact h.2 (Tam e▸hg)
 ·exact h
theorem Taw {ti:Nat->Option TI}{t:TypeId}{v:Value}{sv:SV}(h:Tax ti t v=some sv):cB σ ρ G w sv v:=by
 unfold Tax at h;split at h
 ·obtain rfl:=Option.some.inj h;exact .int _ _
 ·obtain rfl:=Option.some.inj h;exact .bool _
 ·obtain rfl:=Option.some.inj h
  rename_i s;have:=Sc.str s.data.toList;simpa[cB,aB,aL.val] using this
 ·split at h
  ·obtain rfl:=Option.some.inj h
   simp only[cB,aB];refine⟨⟨rfl,by simp⟩,fun _=>⟨?_,?_,trivial⟩⟩
   ·exact .rows none ⟨0,0,none⟩ 0 0 _ [] (fun _ _=>undef) rfl (Nat.le_refl _) (.inl rfl) (by simp) (by simp) (by simp)
   ·exact fun _ z _=>trivial
  ·cases h
 ·obtain rfl:=Option.some.inj h;rfl
 ·cases h
theorem gD (hR:R E.ntmps F σ ρ a w G)(hg:gOn ρ g=true){t:TypeId}{x:Operand}{sv:SV}(h:(Pa5 E g t x).eval σ=some sv):cB σ ρ G w sv (a.eval x):=by
 cases x with
 | tmp k =>
  simp only[Pa5,Bbm]at h;split at h
  ·rename_i g' v hk
   rw[iA]at h;split at h
   ·rename_i hb
    simp only[Zbd]at hb;simp only[aF,Option.some.injEq]at h;subst h;refine Ibw hg ?_
    have hg':gOn ρ g'=true:=by
     cases g' with
     |none=>rfl
     |some z=>exact Tam hb.1▸hg
    have:=hR.slot hk hg';unfold Bae at this;rw[if_pos (by simpa using hb.2)]at this;exact this
   ·cases h
  ·cases h
 | const v =>
  simp only[Pa5,aW]at h;exact Taw h
 |global _=>cases h
 | func f =>
  simp only[Pa5,aF,Option.some.injEq]at h;subst h;simp only[cB,aB];exact⟨[],rfl,by simp[aG]⟩
theorem fJ (hR:R E.ntmps F σ ρ a w G)(hg:gOn ρ g=true){t:TypeId}{x:Operand}{l:aR}(h:(rdL E g t x).eval σ=some l):aB σ ρ G w l (a.eval x):=by
 simp only[rdL,aA,Zbc]at h;obtain⟨sv,h1,h2⟩:=h;have:=gD hR hg h1;unfold one at h2;split at h2
 ·simp only[aF,Option.some.injEq]at h2
  subst h2;exact this
 ·cases h2
theorem jZ (hg:gOn ρ g=true){l:aR}{x:aL}{v:Value}(h:uY g l=some x)(hl:aB σ ρ G w l v):Sc v (x.val ρ):=by
 unfold uY at h;split at h
 ·obtain rfl:=Option.some.inj h
  simpa[aB] using hl
 ·rename_i h' y
  cases e:Kba g (some h') with
  |false=>rw[e]at h;cases h
  | true =>
   rw[e]at h;obtain rfl:=Option.some.inj h;simp only[aB]at hl;exact hl.2 (Tam e▸hg)
 ·cases h
theorem jK (hR:R E.ntmps F σ ρ a w G)(hg:gOn ρ g=true){t:TypeId}{x:Operand}{y:aL}(h:(rdA E g t x).eval σ=some y):Sc (a.eval x) (y.val ρ):=by
 simp only[rdA,aA,Zbc,aW]at h;obtain⟨l,h1,h2⟩:=h;exact jZ hg h2 (fJ hR hg h1)
end
def Nx (n:Nat)(F:bH)(σ:Nat->Option aS)(ρ:List D)(u:List (Nat×aS))(a:Act)(w:World):Prop:=∃ G,R n F (upds σ u) ρ a w G
def fG (n:Nat)(o:Oper):Prop:=∀ d,o.dst=some d->d<n
section
variable {P:Program} {E:Env} {F:bH} {σ:Nat->Option aS} {ρ:List D} {a:Act} {w w':World} {G:Gh} {g:Option (aL×Bool)} {o:Oper} {cf:Nat->List D->Option (List D)} {Q:Exit->Act->World->Prop} {next:Act->World->Prop}
theorem nJ {v:Value}(h:(execOp a.eval o).run P w=.ok (.value v) w')(hn:next (a.put o.dst v) w'):o.wp P a w next Q:=by
 unfold Oper.wp;rw[h];exact hn
theorem Uab (h:(execOp a.eval o).run P w=.ok .skip w')(hn:next (a.put o.dst undef) w'):o.wp P a w next Q:=by
 unfold Oper.wp;rw[h];exact hn
theorem Ma2 (hR:R E.ntmps F σ ρ a w G)(hd:fG E.ntmps o)(hg:gOn ρ g=true){v:Value}{nv:Nat}(h:(execOp a.eval o).run P w=.ok (.value v) w)
  (hv:Sc v ((aL.v nv).val ρ)):o.wp P a w (Nx E.ntmps F σ ρ (dW o none (mkS g (.v nv)))) Q:=by
 refine nJ h ⟨G,hR.pure o hd none _ v fun _=>?_⟩
 cases g with
 |none=>exact hv
 | some z =>
  simp only[mkS,cB,aB];exact⟨.inl hv,fun _=>hv⟩
theorem Jbt (hR:R E.ntmps F σ ρ a w G)(hd:fG E.ntmps o)(hg:gOn ρ g=false){nv:Nat}(hv:(aL.v nv).val ρ=.undef) :
  Nx E.ntmps F σ ρ (dW o none (mkS g (.v nv))) (a.put o.dst undef) w:=by
 refine⟨G,hR.pure o hd none _ undef fun _=>?_⟩
 cases g with
 |none=>cases hg
 | some z =>
  simp only[mkS,cB,aB];exact⟨.inr ⟨trivial,hv⟩,fun h=>by rw[h]at hg;cases hg⟩
theorem Nb8 (hR:R E.ntmps F σ ρ a w G)(hd:fG E.ntmps o)(hg:gOn ρ g=false){sv:SV} :
  Nx E.ntmps F σ ρ (dW o g sv) (a.put o.dst undef) w:=⟨G,hR.pure o hd g _ undef fun h=>by rw[h]at hg;cases hg⟩
def gV (P:Program)(E:Env)(F:bH)(σ:Nat->Option aS)(ρ:List D)(a:Act)(w:World)(g:Option (aL×Bool))(o:Oper)(Q:Exit->Act->World->Prop)(u:List (Nat×aS)):Prop :=
 (gOn ρ g=true->o.wp P a w (Nx E.ntmps F σ ρ u) Q)/\(gOn ρ g=false->Nx E.ntmps F σ ρ u (a.put o.dst undef) w)
theorem step1 {p:aU}{xs:List aL}{nv n:Nat}(h:aN cf ρ g nv [.prim p xs n])(hg:gOn ρ g=true) :
  ∃ ds,p.run (xs.map (·.val ρ))=some ds/\ds.length=n/\∀ j d,ds[j]?=some d->(aL.v (nv+j)).val ρ=d:=h.1.1 hg
theorem fV {p:aU}{xs:List aL}{nv:Nat}(h:aN cf ρ g nv [.prim p xs 1])(hg:gOn ρ g=true) :
  ∃ d,p.run (xs.map (·.val ρ))=some [d]/\(aL.v nv).val ρ=d:=by
 obtain⟨ds,h1,h2,h3⟩:=step1 h hg
 match ds,h2 with
 |[d],_=>exact⟨d,h1,h3 0 d rfl⟩
theorem Han {p:aU}{xs:List aL}{nv:Nat}(h:aN cf ρ g nv [.prim p xs 1])(hg:gOn ρ g=false):(aL.v nv).val ρ=.undef:=h.1.2 hg 0 (by omega)
theorem Faw (o:Oper)(g:Option (aL×Bool))(v:SV):(match o.dst with|some d=>[(kT d,aS.slot g v)]|none=>[])=dW o g v:=rfl
theorem dK (hR:R E.ntmps F σ ρ a w G)(hd:fG E.ntmps o){nv:Nat}{p:aU}{xs:List aL}{res:bP}
  (h:(tV o g nv p xs).eval σ=some res) (hs:aN cf ρ g nv res.lets)
  (hv:gOn ρ g=true->∀ d,p.run (xs.map (·.val ρ))=some [d]->∃ v,Sc v d/\(execOp a.eval o).run P w=.ok (.value v) w):gV P E F σ ρ a w g o Q res.upd:=by
 simp only[tV,aF,Option.some.injEq]at h;subst h;simp only[Faw];refine⟨fun hg=>?_,fun hg=>Jbt hR hd hg (Han hs hg)⟩;obtain⟨d,h1,h2⟩:=fV hs hg;obtain⟨v,h3,h4⟩:=hv hg d h1;exact Ma2 hR hd hg h4 (h2▸h3)
theorem dQ (hR:R E.ntmps F σ ρ a w G)(hd:fG E.ntmps o){lets:List Step}{sv:SV}{res:bP}{nv:Nat}
  (h:(tX o g lets sv []).eval σ=some res) (hs:aN cf ρ g nv res.lets)
  (hv:gOn ρ g=true->aN cf ρ g nv lets->∃ v,cB σ ρ G w sv v/\(execOp a.eval o).run P w=.ok (.value v) w):gV P E F σ ρ a w g o Q res.upd:=by
 simp only[tX,aF,Option.some.injEq]at h;subst h;simp only[Faw,Zb4];refine⟨fun hg=>?_,fun hg=>Nb8 hR hd hg⟩;obtain⟨v,h1,h2⟩:=hv hg hs;exact nJ h2 ⟨G,hR.pure o hd g _ v fun _=>h1⟩
theorem yG (hR:R E.ntmps F σ ρ a w G)(hd:fG E.ntmps o){sv:SV}{res:bP}{nv:Nat}
  (h:(Zaz o g nv sv).eval σ=some res) (hs:aN cf ρ g nv res.lets)
  (hv:gOn ρ g=true->∃ v,cB σ ρ G w sv v/\(execOp a.eval o).run P w=.ok (.value v) w):gV P E F σ ρ a w g o Q res.upd:=by
 unfold Zaz at h;split at h
 ·rename_i z l
  split at h
  ·rename_i x hx
   refine dK hR hd h hs fun hg d hp=>?_
   obtain⟨v,h1,h2⟩:=hv hg;simp only[aU.run,Zb5,Acb,Option.some.injEq,List.cons.injEq,and_true]at hp;exact⟨v,hp▸jZ hg hx h1,h2⟩
  ·exact dQ hR hd h hs fun hg _=>hv hg
 ·exact dQ hR hd h hs fun hg _=>hv hg
theorem fQ {s:Sem Value}{v:Value}(h:s.run P w=.ok v w'):(do pure (Next.value (<- s)):Sem Next).run P w=.ok (.value v) w':=by
 simp only[Sem.run_bind,h,Result.andThen_ok,Sem.run_pure]
theorem Ka8 (hR:R E.ntmps F σ ρ a w G)(hd:fG E.ntmps o){nv:Nat}{x:Operand}(ho:o.op=.move x\/o.op=.assign x){res:bP}
  (h:(do Zaz o g nv (<- Pa5 E g o.type x):RdM bP).eval σ=some res) (hs:aN cf ρ g nv res.lets):gV P E F σ ρ a w g o Q res.upd:=by
 simp only[aA,Zbc]at h;obtain⟨sv,h1,h2⟩:=h;refine yG hR hd h2 hs fun hg=>⟨a.eval x,gD hR hg h1,?_⟩
 rcases ho with ho|ho<;>(unfold execOp;rw[ho];rfl)
theorem Sc.int_inv {v:Value}{k:IntKind}{n:Int}(h:Sc v (.int k n)):v=.int k n:=by cases h;rfl
theorem Sc.bool_inv {v:Value}{b:Bool}(h:Sc v (.bool b)):v=.bool b:=by cases h;rfl
theorem Sc.str_inv {v:Value}{l:List UInt8}(h:Sc v (.str l)):v=.string ⟨l.toArray⟩:=by cases h;rfl
theorem Laj (hR:R E.ntmps F σ ρ a w G)(hg:gOn ρ g=true){z:aL×Bool}{t:TypeId}{x:Operand}{y:aL}(h:(Lak E g z t x).eval σ=some y)(hz:gOn ρ (some z)=true):Sc (a.eval x) (y.val ρ):=by
 simp only[Lak,aA,Zbc]at h;obtain⟨l,h1,h2⟩:=h;have hl:=fJ hR hg h1;split at h2
 ·rename_i b hb
  simp only[aF,Option.some.injEq]at h2;subst h2;exact jZ hg hb hl
 ·simp only[aW]at h2
  exact jZ hz h2 hl
theorem Wa2 (hR:R E.ntmps F σ ρ a w G)(hd:fG E.ntmps o){nv:Nat}{c x y:Operand}(ho:o.op=.pick c x y){res:bP}
  (h:(do
   let c <- rdA E g 0 c
   let a <- Lak E g (c,true) o.type x
   let b <- Lak E g (c,false) o.type y
   tV o g nv .pick [c,a,b]:RdM bP).eval σ=some res) (hs:aN cf ρ g nv res.lets):gV P E F σ ρ a w g o Q res.upd:=by
 simp only[aA,Zbc]at h;obtain⟨c',h1,x',h2,y',h3,h4⟩:=h;refine dK hR hd h4 hs fun hg d hp=>?_
 have hc:=jK hR hg h1;simp only[Zb5,Acb]at hp;generalize hcv:c'.val ρ=cv at hp hc
 cases cv with
 | bool b =>
  simp only[aU.run,Option.some.injEq,List.cons.injEq,and_true]at hp;have e:a.eval c=.bool b:=hc.bool_inv;refine⟨if b then a.eval x else a.eval y,?_,?_⟩
  ·cases b with
   | true =>
    rw[if_pos rfl]at hp ⊢;exact hp▸Laj hR hg h2 (by simp[gOn,hcv])
   | false =>
    simp only[Zbg,if_false]at hp ⊢;exact hp▸Laj hR hg h3 (by simp[gOn,hcv])
  ·unfold execOp
   simp only[ho,e];simp only[asBool,Sem.run_bind,Sem.run_pure,Result.andThen_ok]
 |_=>simp[aU.run]at hp
theorem toList_mk (l:List UInt8):(⟨l.toArray⟩:ByteArray).toList=l:=by
 rw[ByteArray.toList_eq]
theorem size_mk (l:List UInt8):(⟨l.toArray⟩:ByteArray).size=l.length:=rfl
theorem Cbq (x y:List UInt8):(⟨x.toArray⟩:ByteArray)++(⟨y.toArray⟩:ByteArray)=⟨(x++y).toArray⟩:=by
 apply ByteArray.ext;rw[ByteArray.data_append];simp
theorem Wa9 {op:BinOp}{t:TypeId}{k k':IntKind}{x y:Int}{d:D}(h:Oat op (.int k x) (.int k' y)=some d) :
    ∃ v,Sc v d/\(binOp op t (.int k x) (.int k' y)).run P w=.ok v w:=by
  unfold Oat at h;dsimp only at h
  cases op<;>dsimp only at h<;>first
    | (simp only [Zag] at h
       split at h
       · cases h
       · rename_i hy
         obtain rfl:=Option.some.inj h;exact⟨_,.int _ _,by simp[binOp,Op.shift,hy]⟩)
    | (split at h
       · rename_i hk
         subst hk;simp only[Aat]at h
         first
         | (obtain rfl := Option.some.inj h
            first
            |exact⟨_,.int _ _,by simp[binOp,Op.intArith,Op.intBits]⟩
            |exact⟨_,.bool _,by simp[binOp,Op.intCmp]⟩)
         | (split at h
            · cases h
            · rename_i hy
              obtain rfl:=Option.some.inj h;exact⟨_,.int _ _,by simp[binOp,Op.intDiv,hy]⟩)
         |cases h
       · cases h)
theorem Wa8 {op:BinOp}{t:TypeId}{x y:List UInt8}{d:D}(h:Oat op (.str x) (.str y)=some d) :
    ∃ v,Sc v d/\(binOp op t (.string ⟨x.toArray⟩) (.string ⟨y.toArray⟩)).run P w=.ok v w:=by
  simp only[Oat,Lbk]at h;have a6f:IntKind.i64.max=9223372036854775807:=by decide
  cases op<;>dsimp only at h<;>first
    | (obtain rfl := Option.some.inj h
       exact⟨_,.bool _,by simp[binOp,Op.stringOp,toList_mk]⟩)
    | (split at h
       · rename_i hl
         obtain rfl:=Option.some.inj h;refine⟨_,.str _,?_⟩;simp only[binOp,Op.stringOp,size_mk,Cbq,a6f];rw[if_neg (by omega)];rfl
       · cases h)
    |cases h
theorem Jbg {op:BinOp}{t:TypeId}{vx vy:Value}{dx dy d:D}(hx:Sc vx dx)(hy:Sc vy dy)(h:Oat op dx dy=some d) :
  ∃ v,Sc v d/\(binOp op t vx vy).run P w=.ok v w:=by
 cases hx<;>cases hy<;>first|exact Wa9 h|exact Wa8 h|(simp[Oat]at h)
theorem Yaa {op:BinOp}{t:TypeId}{x y:Operand}{vx vy:Value}{dx dy:D}(hx:Sc vx dx)(hy:Sc vy dy):(eqGuard op t x y vx vy).run P w=.ok () w:=by
 cases hx<;>cases hy<;>(unfold eqGuard;cases op<;>simp)
theorem Pao (hR:R E.ntmps F σ ρ a w G)(hd:fG E.ntmps o){nv:Nat}{op:BinOp}{t ty:TypeId}{x y:Operand}(ho:o.op=.binOp op t x y ty){res:bP}
  {x' y':aL} (h1:gOn ρ g=true->Sc (a.eval x) (x'.val ρ)) (h2:gOn ρ g=true->Sc (a.eval y) (y'.val ρ))
  (h:(tV o g nv (.bin op) [x',y']).eval σ=some res) (hs:aN cf ρ g nv res.lets):gV P E F σ ρ a w g o Q res.upd:=by
 refine dK hR hd h hs fun hg d hp=>?_
 simp only[Zb5,Acb,aU.run,Zbo,List.cons.injEq,and_true]at hp;obtain⟨d',hp,rfl⟩:=hp;obtain⟨v,h3,h4⟩:=Jbg (P:=P) (w:=w) (t:=t) (h1 hg) (h2 hg) hp;refine⟨v,h3,?_⟩;unfold execOp;simp only[ho];refine fQ ?_;rw[Sem.run_bind,Yaa (h1 hg) (h2 hg)];exact h4
theorem Fbj (hR:R E.ntmps F σ ρ a w G)(hd:fG E.ntmps o){nv:Nat}{op:UnOp}{t:TypeId}{x:Operand}(ho:o.op=.unOp op t x){res:bP}
  (h:(do
   let a <- rdA E g 0 x
   match op with
   |.not=>tV o g nv .not [a]
   |.neg=>tV o g nv .neg [a]
   |.xor=>tV o g nv .inv [a]
   |_=>.no:RdM bP).eval σ=some res) (hs:aN cf ρ g nv res.lets):gV P E F σ ρ a w g o Q res.upd:=by
 simp only[aA,Zbc]at h;obtain⟨x',h1,h2⟩:=h;split at h2
 ·refine dK hR hd h2 hs fun hg d hp=>?_
  have hx:=jK hR hg h1;simp only[Zb5,Acb]at hp;generalize x'.val ρ=xv at hp hx;cases xv<;>simp only[aU.run]at hp<;>first|cases hp|skip
  rename_i b;exact⟨_,.bool _,by unfold execOp;simp only[ho,hx.bool_inv];rfl⟩
 ·refine dK hR hd h2 hs fun hg d hp=>?_
  have hx:=jK hR hg h1;simp only[Zb5,Acb]at hp;generalize x'.val ρ=xv at hp hx;cases xv<;>simp only[aU.run]at hp<;>first|cases hp|skip
  exact⟨_,.int _ _,by unfold execOp;simp only[ho,hx.int_inv];rfl⟩
 ·refine dK hR hd h2 hs fun hg d hp=>?_
  have hx:=jK hR hg h1;simp only[Zb5,Acb]at hp;generalize x'.val ρ=xv at hp hx;cases xv<;>simp only[aU.run,Aat,Acm,Option.some.injEq,List.cons.injEq,and_true]at hp<;>first|cases hp|skip
  exact⟨_,.int _ _,by unfold execOp;simp only[ho,hx.int_inv];rfl⟩
 ·cases h2
theorem Wa4 (hR:R E.ntmps F σ ρ a w G)(hd:fG E.ntmps o)(hti:vN P E.ti){nv:Nat}{src dst:TypeId}{x:Operand}(ho:o.op=.convert src dst x){res:bP}{s d:TI}{k:IntKind}
  (oB:E.ti src=some s) (ll:s.ik.isSome=true) (fy:E.ti dst=some d) (hk:d.ik=some k) {x':aL} (h1:(rdA E g src x).eval σ=some x')
  (h:(tV o g nv (.conv k) [x']).eval σ=some res) (hs:aN cf ρ g nv res.lets):gV P E F σ ρ a w g o Q res.upd:=by
 refine dK hR hd h hs fun hg e hp=>?_
 have hx:=jK hR hg h1;simp only[Zb5,Acb]at hp;generalize x'.val ρ=xv at hp hx;cases xv<;>simp only[aU.run]at hp<;>first|cases hp|skip
 rename_i k0 n;obtain⟨i1,u1,f1⟩:=aX (hti.ok _ _ oB);obtain⟨i2,u2,f2⟩:=aX (hti.ok _ _ fy)
 have e2:u2=.int k:=by
  have:=f2.ik.symm.trans hk;unfold Rbr at this;split at this
  ·rw[Option.some.inj this]
  ·cases this
 subst e2;refine⟨_,.int _ _,?_⟩;unfold execOp;simp only[ho,hx.int_inv];refine fQ ?_;simp only[convert,Sem.run_bind,run_underlying f1.und,run_underlying f2.und,Result.andThen_ok];rfl
end
section
variable {P:Program} {E:Env} {F:bH} {σ:Nat->Option aS} {ρ:List D} {a:Act} {w w':World} {G:Gh} {g:Option (aL×Bool)} {o:Oper} {cf:Nat->List D->Option (List D)} {Q:Exit->Act->World->Prop} {next:Act->World->Prop}
def Nal (σ:Nat->Option aS)(r k:Nat):Prop:=∃ m,zF σ r k m
theorem jC:∀ {deps ds:List (Nat×Nat)},(wD deps).eval σ=some ds ->
  (∀ z∈deps,mE σ z.1 z.2)/\(∀ z∈ds,z∈deps/\Nal σ z.1 z.2)/\∀ z∈deps,z∈ds\/∃ x m,σ (kR z.1)=some (.root x m z.2 .frozen)
 | [], ds, h => by
  simp only[wD,aF,Option.some.injEq]at h;subst h;simp
 | (r, k) :: rest, ds, h => by
  simp only[wD,aA,aT,Zbj]at h;split at h
  ·rename_i x m bc st hk
   simp only[aA,Zbc]at h;obtain⟨gy,h1,h2⟩:=h;obtain⟨h3,h4,h5⟩:=jC h1;split at h2
   ·rw[iA]at h2
    split at h2
    ·rename_i e
     simp only[Zb8]at e;simp only[aF,Option.some.injEq]at h2;subst h2 e;refine⟨fun z hz=>?_,fun z hz=>⟨Zbn _ (h4 z hz).1,(h4 z hz).2⟩,fun z hz=>?_⟩
     ·rcases List.mem_cons.1 hz with rfl|hz
      ·exact⟨x,m,.frozen,hk,.inr rfl⟩
      ·exact h3 z hz
     ·rcases List.mem_cons.1 hz with rfl|hz
      ·exact .inr ⟨x,m,hk⟩
      ·exact h5 z hz
    ·cases h2
   ·rw[iA]at h2
    split at h2
    ·rename_i e
     simp only[Zb8]at e;simp only[aF,Option.some.injEq]at h2;subst h2 e;refine⟨fun z hz=>?_,fun z hz=>?_,fun z hz=>?_⟩
     ·rcases List.mem_cons.1 hz with rfl|hz
      ·exact⟨x,m,.live,hk,.inl rfl⟩
      ·exact h3 z hz
     ·rcases List.mem_cons.1 hz with rfl|hz
      ·exact⟨Zbu,m,x,hk⟩
      ·exact⟨Zbn _ (h4 z hz).1,(h4 z hz).2⟩
     ·rcases List.mem_cons.1 hz with rfl|hz
      ·exact .inl Zbu
      ·exact (h5 z hz).imp (Zbn _) id
    ·cases h2
   ·cases h2
  ·cases h
theorem Rd.drop (hR:R E.ntmps F σ ρ a w G){deps ds:List (Nat×Nat)}(h:∀ z∈deps,z∈ds\/∃ x m,σ (kR z.1)=some (.root x m z.2 .frozen)){v:Value}{d:D}
  (hv:Rd (allow G deps) w v d):Rd (allow G ds) w v d:=by
 refine hv.mono fun b hb=>⟨?_,rfl⟩
 rcases hb with hb|⟨r,k,p,hm,hb⟩
 ·exact .inl hb
 ·rcases h (r,k) hm with h1|⟨x,m,h1⟩
  ·exact .inr ⟨r,k,p,h1,hb⟩
  ·exact absurd hb ((hR.root h1).2 b p)
def vH (σ:Nat->Option aS)(ρ:List D)(G:Gh)(w:World)(s:SlR)(v:Value):Prop :=
 match s.own with
 |none=>True
 | some (r, k, m, p) => s.deps = [(r, k)] /\ zF σ r k m /\ match p with
  |.no=>True
  |.view=>Rp G.own w r [] m v (s.x.val ρ)
  |.suf sz lo=>Ibt (G.hdr r) v sz (lD ρ lo)
  |.path q=>q.length<=m/\Rp G.own w r (bD ρ q) (m-q.length) v (s.x.val ρ)/\zN G.own w r [] (G.hdr r) (bD ρ q) v
structure Yas (σ:Nat->Option aS) (ρ:List D) (G:Gh) (w:World) (s:SlR) (v:Value):Prop where
 rd:Rd (allow G s.deps) w v (s.x.val ρ)
 live:∀ z∈s.deps,Nal σ z.1 z.2
 nie:s.nie=true->∀ z,s.x.val ρ=.rows z []->v=.slice none 0 0
 own:vH σ ρ G w s v
theorem dX (hR:R E.ntmps F σ ρ a w G){l:aR}{s:SlR}(h:(yJ l).eval σ=some s){v:Value}(hl:aB σ ρ G w l v):Yas σ ρ G w s v:=by
 unfold yJ at h;split at h
 ·rename_i r
  simp only[aB]at hl;simp only[aA,aT,Zbj]at h;split at h
  ·rename_i x m bc hk
   simp only[aF,Option.some.injEq]at h;subst h;have hr:=hR.root hk;simp only[bS]at hr;rw[<- hl.1]at hr;refine⟨hr.rd.mono fun b hb=>⟨hb.imp id fun ⟨q,hq⟩=>⟨r,bc,q,by simp,hq⟩,rfl⟩,?_,by simp,?_⟩
   ·intro z hz
    simp only[Zbp]at hz;subst hz;exact⟨m,x,hk⟩
   ·refine⟨rfl,⟨x,hk⟩,Nat.zero_le _,by simpa[bD] using hr,?_⟩
    simp only[bD,Acb,zN];exact hl.1
  ·rename_i x m bc hk
   simp only[aF,Option.some.injEq]at h;subst h;have hr:=(hR.root hk).1;rw[<- hl.1]at hr;exact⟨hr.mono fun b hb=>⟨.inl hb,rfl⟩,by simp,by simp,trivial⟩
  ·cases h
 ·rename_i deps p nie x
  simp only[aB]at hl;simp only[aA,Zbc]at h;obtain⟨ds,h1,h2⟩:=h;obtain⟨h3,h4,h5⟩:=jC h1;obtain⟨h6,h7,h8⟩:=hl.2 h3;have h9:=h6.drop hR h5;split at h2
  ·simp only[aF,Option.some.injEq]at h2
   subst h2;exact⟨h9,fun z hz=>(h4 z hz).2,h7,trivial⟩
  ·rename_i r k z cJ
   simp only[aA,aT,Zbj]at h2;split at h2
   ·rename_i x' m bc hk
    simp only[aF,Option.some.injEq]at h2;subst h2;have hz:=(h4 z (by simp)).1;simp only[Zbp]at hz;subst hz;have iq:Nal σ r k:=(h4 (r,k) (by simp)).2;obtain⟨m',x'',kb⟩:=iq;rw[hk]at kb;obtain⟨rfl,rfl,rfl⟩:x'=x''/\m=m'/\bc=k:=by injection kb with kb;injection kb with a b c d;exact⟨a,b,c⟩
    refine⟨h9,fun z hz=>(h4 z hz).2,h7,rfl,⟨x',hk⟩,?_⟩
    cases p with
    |no=>trivial
    |view=>exact h8 r bc m rfl ⟨x',hk⟩
    |path q=>exact h8 r bc m rfl ⟨x',hk⟩
    |suf sz lo=>exact h8 r bc m rfl ⟨x',hk⟩
   ·cases h2
  ·simp only[aF,Option.some.injEq]at h2
   subst h2;exact⟨h9,fun z hz=>(h4 z hz).2,h7,trivial⟩
 ·cases h
theorem Rd.inv {ok:Nat->Prop}{v:Value}{sz:Nat}{rs:List (List D)}(h:Rd ok w v (.rows sz rs)) :
  ∃ (A:Option Addr) (a:Addr) (n c:Nat) (vs:Nat->Nat->Value),v=.slice A n c/\rs.length=n/\n<=c/\(n=0\/A=some a)/\(∀ r∈rs,r.length=sz) /\
   (∀ i r,rs[i]?=some r->∀ j d,r[j]?=some d->ok a.block/\w.cell? (a.add (i*sz+j))=some (vs i j)) /\
   (∀ i r,rs[i]?=some r->∀ j d,r[j]?=some d->Rd ok w (vs i j) d):=by
 cases h with
 |sc h=>cases h
 |rows A a n c sz rs vs hn hc hA dw bd cq=>exact⟨A,a,n,c,vs,rfl,hn,hc,hA,dw,bd,cq⟩
theorem qN {t:TypeId}{i:TI}{info:TypeInfo}{u:TypeDesc}{e:Nat}(f:dB P t i info u)(h:i.elem=some e):u=.slice e:=by
 have:=f.elem.symm.trans h;unfold Bbu at this;split at this
 ·rw[Option.some.inj this]
 ·cases this
theorem Jae {t:TypeId}{i:TI}{info:TypeInfo}{u:TypeDesc}(f:dB P t i info u)(h:i.elem.isSome=true):∃ e,u=.slice e:=by
 cases e:i.elem with
 |none=>rw[e]at h;cases h
 |some e'=>exact⟨e',qN f e⟩
theorem Da0 {t:TypeId}{i:TI}{info:TypeInfo}{u:TypeDesc}(f:dB P t i info u)(h:i.isStr=true):u=.string:=by
 have:Abv u=true:=by rw[<- h,f.eq];rfl
 unfold Abv at this;split at this
 ·rfl
 ·cases this
theorem Na2 {t:TypeId}{i:TI}{info:TypeInfo}{u:TypeDesc}(f:dB P t i info u){k off ft:Nat}(h:i.flds[k]?=some (off,ft)) :
  ∃ fs fd,u=.struct fs/\fs[k]?=some fd/\fd.offset=off/\fd.type=ft:=by
 rw[f.flds]at h;unfold Bbj at h;split at h
 ·rename_i fs
  simp only[Zb2,Zbo,Prod.mk.injEq]at h;obtain⟨fd,h1,h2,h3⟩:=h;exact⟨fs,fd,rfl,by simpa using h1,h2,h3⟩
 ·simp at h
theorem Oaf {α:Type}{as:Array α}{x:α}(h:as.toList=[x]):as=#[x]:=by
 apply Cc5;simpa using h
theorem Hbo {α:Type}{as:Array α}{x y:α}(h:as.toList=[x,y]):as=#[x,y]:=by
 apply Cc5;simpa using h
theorem mJ {b:Builtin}{args:Array Operand}{argTypes:Array TypeId}{s:Sem Value}{v:Value}(ho:o.op=.call { callee:=.builtin b,args,argTypes })
  (hb:∀ consts,builtin b argTypes o.type consts (args.map a.eval)=(do pure (.value (<- s)))) (h:s.run P w=.ok v w'):(execOp a.eval o).run P w=.ok (.value v) w':=by
 unfold execOp;simp only[ho,resolve,Sem.run_bind,Sem.run_pure,Result.andThen_ok,invoke,hb];rw[h];rfl
theorem Sa8 {α γ:Type}(f:α->γ)(x:α):Array.map f #[x]=#[f x]:=by simp
theorem Jbu {α γ:Type}(f:α->γ)(x y:α):Array.map f #[x,y]=#[f x,f y]:=by simp
theorem Say {t ty:TypeId}{argTypes:Array TypeId}(ht:argTypes[0]?=some t)(hu:P.underlying t=some .string)(s:ByteArray) :
  (Builtin.len_ argTypes ty #[.string s]).run P w=.ok (.int .i64 s.size) w:=by
 simp[Builtin.len_,ht,run_underlying hu,goInt]
theorem run_len_slice {t ty e:TypeId}{argTypes:Array TypeId}(ht:argTypes[0]?=some t)(hu:P.underlying t=some (.slice e))(A:Option Addr)(n c:Nat) :
  (Builtin.len_ argTypes ty #[.slice A n c]).run P w=.ok (.int .i64 n) w:=by
 simp[Builtin.len_,ht,run_underlying hu,goInt]
theorem Ya8 (hR:R E.ntmps F σ ρ a w G)(hd:fG E.ntmps o)(hti:vN P E.ti){nv:Nat}{args:Array Operand}{argTypes:Array TypeId}
  (ho:o.op=.call { callee:=.builtin .len,args,argTypes }) {x:Operand} (hx:args.toList=[x]) {t:TypeId} (ht:argTypes[0]?=some t) {ti:TI} (hi:E.ti t=some ti) {res:bP}
  (h:(do
   let l <- rdL E g t x
   match uY g l with
   | some a => do
    bM ti.isStr
    tV o g nv .slen [a]
   | none => do
    bM ti.elem.isSome
    let s <- yJ l
    tV o g nv .len [s.x]:RdM bP).eval σ=some res) (hs:aN cf ρ g nv res.lets):gV P E F σ ρ a w g o Q res.upd:=by
 obtain⟨info,u,f⟩:=aX (hti.ok _ _ hi);simp only[aA,Zbc]at h;obtain⟨l,h1,h2⟩:=h;split at h2
 ·rename_i y hy
  simp only[aA,aK,Zbc]at h2;obtain⟨_,h3,h4⟩:=h2;split at h3
  ·rename_i a57
   obtain rfl:=Da0 f a57;refine dK hR hd h4 hs fun hg d hp=>?_
   have hv:=jZ hg hy (fJ hR hg h1);simp only[Zb5,Acb]at hp;generalize y.val ρ=yv at hp hv;cases yv<;>simp only[aU.run]at hp<;>first|cases hp|skip
   rename_i s;refine⟨_,.int _ _,mJ ho (fun _=>rfl) ?_⟩;have e:=Say (P:=P) (w:=w) (ty:=o.type) ht f.und ⟨s.toArray⟩;rw[<- hv.str_inv]at e;rw[Oaf hx,Sa8];exact e
  ·cases h3
 ·rename_i hy
  simp only[aA,aK,Zbc]at h2;obtain⟨_,h3,s,h4,h5⟩:=h2;split at h3
  ·rename_i hel
   obtain⟨e,rfl⟩:=Jae f hel;refine dK hR hd h5 hs fun hg d hp=>?_
   have hv:=(dX hR h4 (fJ hR hg h1)).rd;simp only[Zb5,Acb]at hp;generalize s.x.val ρ=yv at hp hv;cases yv<;>simp only[aU.run]at hp<;>first|cases hp|skip
   rename_i sz rs;obtain⟨A,b,n,c,vs,e1,e2,-⟩:=hv.inv;refine⟨_,.int _ _,mJ ho (fun _=>rfl) ?_⟩;have e:=run_len_slice (P:=P) (w:=w) (ty:=o.type) ht f.und A n c;rw[<- e1]at e;rw[Oaf hx,e2,Sa8];exact e
  ·cases h3
theorem aG.len {ls:List aR}:∀ {vs:List Value},aG σ ρ G w ls vs->vs.length=ls.length:=by
 induction ls with
 |nil=>intro vs h;simp only[aG]at h;simp[h]
 | cons l ls ih =>
  intro vs h;simp only[aG]at h;obtain⟨u,us,rfl,_,h2⟩:=h;simp[ih h2]
theorem aG.get {ls:List aR}:∀ {vs:List Value} {i:Nat} {l:aR},aG σ ρ G w ls vs->ls[i]?=some l->∃ v,vs[i]?=some v/\aB σ ρ G w l v:=by
 induction ls with
 |nil=>intro vs i l h hi;simp at hi
 | cons l0 ls ih =>
  intro vs i l h hi;simp only[aG]at h;obtain⟨u,us,rfl,h1,h2⟩:=h
  cases i with
  | zero =>
   simp only[Zbl,Option.some.injEq]at hi;subst hi;exact⟨u,rfl,h1⟩
  | succ i =>
   simp only[Acl]at hi ⊢;exact ih h2 hi
theorem aG.of_get {ls:List aR}:∀ {vs:List Value},vs.length=ls.length->(∀ (i:Nat) (l:aR) (v:Value),ls[i]?=some l->vs[i]?=some v->aB σ ρ G w l v)->aG σ ρ G w ls vs:=by
 induction ls with
 |nil=>intro vs h _;simp only[aG];exact Acu h
 | cons l0 ls ih =>
  intro vs h hg
  cases vs with
  |nil=>simp at h
  | cons u us =>
   simp only[aG];exact⟨u,us,rfl,hg 0 l0 u rfl rfl,ih (by simpa using h) fun i l v hi hv=>hg (i+1) l v hi hv⟩
theorem aG.drop {ls:List aR}{vs:List Value}(k:Nat)(h:aG σ ρ G w ls vs):aG σ ρ G w (ls.drop k) (vs.drop k):=by
 refine .of_get (by simp[h.len]) fun i l v hi hv=>?_
 rw[Acg]at hi hv;obtain⟨v',h1,h2⟩:=h.get hi;rw[h1]at hv;exact Option.some.inj hv▸h2
theorem aG.take {ls:List aR}{vs:List Value}(k:Nat)(h:aG σ ρ G w ls vs):aG σ ρ G w (ls.take k) (vs.take k):=by
 refine .of_get (by simp[h.len]) fun i l v hi hv=>?_
 rw[Acs]at hi hv;split at hi
 ·rename_i hk
  rw[if_pos hk]at hv;obtain⟨v',h1,h2⟩:=h.get hi;rw[h1]at hv;exact Option.some.inj hv▸h2
 ·cases hi
theorem tF {agg:Bool}{ls:List aR}{sv:SV}(h:Uar agg ls=some sv){vs:List Value}(hl:aG σ ρ G w ls vs){v:Value}
  (hv:if agg=true then v=.agg vs.toArray else vs=[v]):cB σ ρ G w sv v:=by
 unfold Uar at h
 cases agg with
 | true =>
  simp only[cond_true,Option.some.injEq]at h;subst h;exact⟨vs,by simpa using hv,hl⟩
 | false =>
  simp only[cond_false]at h;split at h
  ·simp only[Option.some.injEq]at h
   subst h;simp only[Zbg,if_false]at hv;subst hv;simp only[aG]at hl;obtain⟨u,us,e,h1,-⟩:=hl;obtain⟨rfl,-⟩:=List.cons.inj e;exact h1
  ·cases h
theorem Sap (hR:R E.ntmps F σ ρ a w G)(hd:fG E.ntmps o)(hti:vN P E.ti){nv:Nat}{t:TypeId}{x:Operand}{k:Nat}(ho:o.op=.field t x k){ti fi:TI}{off ft:Nat}
  (hi:E.ti t=some ti) (hf:ti.flds[k]?=some (off,ft)) (hfi:E.ti ft=some fi) {res:bP}
  (h:(do
   match <- Pa5 E g t x with
   | .agg ls => do
    bM (Nat.ble (off+fi.size) ls.length&&Nat.beq ls.length ti.size)
    match Uar fi.agg ((ls.drop off).take fi.size) with
    |some v=>Zaz o g nv v
    |none=>.no
   |_=>.no:RdM bP).eval σ=some res) (hs:aN cf ρ g nv res.lets):gV P E F σ ρ a w g o Q res.upd:=by
 obtain⟨info,u,f⟩:=aX (hti.ok _ _ hi);obtain⟨jg,u',f'⟩:=aX (hti.ok _ _ hfi);obtain⟨fs,fd,rfl,h1,rfl,rfl⟩:=Na2 f hf;simp only[aA,Zbc]at h;obtain⟨sv,h2,h3⟩:=h;split at h3
 ·rename_i ls
  simp only[aA,aK,Zbc]at h3;obtain⟨_,h4,h5⟩:=h3;split at h4
  ·rename_i hb
   simp only[Zbd,Acr]at hb;split at h5
   ·rename_i sv' gE
    refine yG hR hd h5 hs fun hg=>?_
    obtain⟨vs,e,hl⟩:=gD hR hg h2;have fw:=(hl.drop fd.offset).take fi.size;have hlen:=hl.len
    have bj:∀ v,(if fi.agg=true then v=.agg ((vs.drop fd.offset).take fi.size).toArray else (vs.drop fd.offset).take fi.size=[v]) ->
      (execOp a.eval o).run P w=.ok (.value v) w:=by
     intro v hv;unfold execOp;simp only[ho];refine fQ ?_;simp only[Instr.field,Sem.run_bind,run_underlying f.und,Result.andThen_ok,h1,e,asAgg,Sem.run_pure,part,f'.isAgg,f'.sizeOf]
     cases uj:fi.agg with
     | true =>
      rw[uj]at hv;simp only[if_true]at hv ⊢;rw[hv];simp only[Sem.run_bind,f'.sizeOf,Result.andThen_ok,Sem.run_pure];congr 2;apply Cc5;simp[List.extract_eq_take_drop]
     | false =>
      rw[uj]at hv;simp only[Zbg,if_false]at hv ⊢
      have:vs[fd.offset]?=some v:=by
       have h0:((vs.drop fd.offset).take fi.size)[0]?=some v:=by rw[hv];rfl
       rw[Acs]at h0;split at h0
       ·rw[Acg]at h0;simpa using h0
       ·cases h0
      simp[this]
    cases uj:fi.agg with
    | true =>
     refine⟨.agg ((vs.drop fd.offset).take fi.size).toArray,tF gE fw (by rw[uj];rfl),bj _ (by rw[uj];rfl)⟩
    | false =>
     have oz:((ls.drop fd.offset).take fi.size).length=1:=by
      rw[uj]at gE;unfold Uar at gE;simp only[cond_false]at gE;split at gE
      ·rename_i l oz;rw[oz];rfl
      ·cases gE
     have uw:((vs.drop fd.offset).take fi.size).length=1:=by rw[fw.len,oz]
     obtain⟨v,hv⟩:=List.length_eq_one_iff.1 uw;exact⟨v,tF gE fw (by rw[uj];exact hv),bj _ (by rw[uj];exact hv)⟩
   ·cases h5
  ·cases h4
 ·cases h3
theorem iP.get:∀ {ts:List (Bool×List aR)} {us:List Value} {i:Nat} {ag:Bool} {ls:List aR},iP σ ρ G w ts us->ts[i]?=some (ag,ls) ->
  ∃ u vs,us[i]?=some u/\aG σ ρ G w ls vs/\(if ag=true then u=.agg vs.toArray else vs=[u])
 |[],_,_,_,_,_,h=>by simp at h
 | (a0, l0) :: r, us, i, ag, ls, ht, h => by
  obtain⟨u,cW,vs,rfl,h1,h2,h3⟩:=ht
  cases i with
  | zero =>
   simp only[Zbl,Option.some.injEq,Prod.mk.injEq]at h;obtain⟨rfl,rfl⟩:=h;exact⟨u,vs,rfl,h1,h2⟩
  | succ i =>
   simp only[Acl]at h ⊢;exact iP.get h3 h
theorem Ma1 (hR:R E.ntmps F σ ρ a w G)(hd:fG E.ntmps o){nv:Nat}{x:Operand}{i:Nat}(ho:o.op=.extract x i){res:bP}
  (h:(do
   match <- Pa5 E g 0 x with
   | .tup vs => match vs[i]? with
    | some (a, ls) => match Uar a ls with
     |some v=>Zaz o g nv v
     |none=>.no
    |none=>.no
   |_=>.no:RdM bP).eval σ=some res) (hs:aN cf ρ g nv res.lets):gV P E F σ ρ a w g o Q res.upd:=by
 simp only[aA,Zbc]at h;obtain⟨sv,h2,h3⟩:=h;split at h3
 ·rename_i ts
  split at h3
  ·rename_i ag ls hi
   split at h3
   ·rename_i v hv
    refine yG hR hd h3 hs fun hg=>?_
    obtain⟨us,e,ht⟩:=gD hR hg h2;obtain⟨u,vs,h4,h5,h6⟩:=ht.get hi;refine⟨u,tF hv h5 h6,?_⟩;unfold execOp;simp only[ho];refine fQ ?_;simp[Instr.extract,e,h4]
   ·cases h3
  ·cases h3
 ·cases h3
theorem Hav (hR:R E.ntmps F σ ρ a w G)(hd:fG E.ntmps o)(hti:vN P E.ti){nv:Nat}{t:TypeId}{x:Operand}{k:Nat}(ho:o.op=.fieldAddr t x k){ti fi:TI}{off ft:Nat}
  (hi:E.ti t=some ti) (hf:ti.flds[k]?=some (off,ft)) (hfi:E.ti ft=some fi) (jc:0<fi.size) {res:bP}
  (h:(do Sai o g off (<- rdL E g 0 x):RdM bP).eval σ=some res) (hs:aN cf ρ g nv res.lets):gV P E F σ ρ a w g o Q res.upd:=by
 obtain⟨info,u,f⟩:=aX (hti.ok _ _ hi);obtain⟨jg,u',f'⟩:=aX (hti.ok _ _ hfi);obtain⟨fs,fd,rfl,h1,rfl,rfl⟩:=Na2 f hf;simp only[aA,Zbc]at h;obtain⟨l,h2,h3⟩:=h
 have bj:∀ b:Addr,a.eval x=.pointer (some b)->(execOp a.eval o).run P w=.ok (.value (.pointer (some (b.add fd.offset)))) w:=by
  intro b hb;unfold execOp;simp only[ho];refine fQ ?_;have cJ:¬ fi.size=0:=by omega
  simp only[Instr.fieldAt,Sem.run_bind,run_underlying f.und,Result.andThen_ok,h1,Instr.sureAddr,hb,Sem.run_pure,fieldPlace,f'.sizeOf,if_neg cJ]
 unfold Sai at h3;split at h3
 ·rename_i b off
  refine dQ hR hd h3 hs fun hg _=>?_
  have hl:=fJ hR hg h2;simp only[aB]at hl;refine⟨_,?_,bj _ hl.1⟩;simp only[cB,aB];exact⟨by rw[add_add],hl.2⟩
 ·rename_i l' sz i off
  refine dQ hR hd h3 hs fun hg _=>?_
  have hl:=fJ hR hg h2;simp only[aB]at hl;obtain⟨b,n,c,k',iv,h4,h5,h6,h7,h8⟩:=hl;refine⟨_,?_,bj _ h8⟩;simp only[cB,aB];exact⟨b,n,c,k',iv,h4,h5,h6,h7,by rw[add_add,Zb0]⟩
 ·cases h3
end
section
variable {P:Program} {E:Env} {F:bH} {σ:Nat->Option aS} {ρ:List D} {a:Act} {w w':World} {G:Gh} {g:Option (aL×Bool)} {o:Oper} {cf:Nat->List D->Option (List D)} {Q:Exit->Act->World->Prop} {next:Act->World->Prop}
theorem Hau (hR:R E.ntmps F σ ρ a w G)(hd:fG E.ntmps o)(hti:vN P E.ti){nv:Nat}{t:TypeId}{x i:Operand}(ho:o.op=.indexAddr t x i){ti ei:TI}{e:Nat}
  (hi:E.ti t=some ti) (he:ti.elem=some e) (vo:E.ti e=some ei) {res:bP}
  (h:(do
   let l <- rdL E g t x
   let s <- yJ l
   let a <- rdA E g 0 i
   bM (Nat.blt 0 ei.size)
   tX o g [.prim .inb [s.x,a] 0] (.one (.pe l ei.size a 0)) []:RdM bP).eval σ=some res) (hs:aN cf ρ g nv res.lets):gV P E F σ ρ a w g o Q res.upd:=by
 obtain⟨info,u,f⟩:=aX (hti.ok _ _ hi);obtain⟨jg,u',f'⟩:=aX (hti.ok _ _ vo);obtain rfl:=qN f he;simp only[aA,Zbc,aK]at h;obtain⟨l,h1,s,h2,y,h3,_,h4,h5⟩:=h;refine dQ hR hd h5 hs fun hg aE=>?_
 obtain⟨ds,hp,-,-⟩:=step1 aE hg;have hl:=fJ hR hg h1;have hL:=(dX hR h2 hl).rd;have hy:=jK hR hg h3;simp only[Zb5,Acb]at hp;generalize hxv:s.x.val ρ=xv at hp hL;generalize zq:y.val ρ=yv at hp hy;cases xv<;>cases yv<;>simp only[aU.run]at hp<;>first|cases hp|skip
 rename_i sz rs k iv;split at hp
 ·rename_i hb
  obtain⟨A,b,n,c,vs,e1,e2,e3,e4,-⟩:=hL.inv;have hn:n≠0:=by omega
  have hA:A=some b:=e4.resolve_left hn;subst hA;refine⟨.pointer (some (b.add (iv.toNat*ei.size+0))),?_,?_⟩
  ·simp only[cB,aB]
   exact⟨b,n,c,k,iv,e1▸hl,zq,hb.1,by omega,rfl⟩
  ·unfold execOp
   simp only[ho];refine fQ ?_;have hlt:(0:Int)<=iv/\iv<(n:Int):=⟨hb.1,by rw[<- e2];exact hb.2⟩;simp only[Instr.indexAt,hy.int_inv,asIntOf,Sem.run_bind,Sem.run_pure,Result.andThen_ok,run_underlying f.und,e1,if_pos hlt,f'.sizeOf,Nat.add_zero]
 ·cases hp
theorem Sao (hR:R E.ntmps F σ ρ a w G)(hd:fG E.ntmps o)(hti:vN P E.ti){nv:Nat}{t:TypeId}{x i:Operand}(ho:o.op=.index t x i){ti:TI}
  (hi:E.ti t=some ti) {res:bP}
  (h:(do
   bM ti.isStr
   let s <- rdA E g t x
   let a <- rdA E g 0 i
   tV o g nv .sidx [s,a]:RdM bP).eval σ=some res) (hs:aN cf ρ g nv res.lets):gV P E F σ ρ a w g o Q res.upd:=by
 obtain⟨info,u,f⟩:=aX (hti.ok _ _ hi);simp only[aA,Zbc,aK]at h;obtain⟨_,h0,x',h1,y,h2,h3⟩:=h;split at h0
 ·rename_i aE
  obtain rfl:=Da0 f aE;refine dK hR hd h3 hs fun hg d hp=>?_
  have hx:=jK hR hg h1;have hy:=jK hR hg h2;simp only[Zb5,Acb]at hp;generalize x'.val ρ=xv at hp hx;generalize y.val ρ=yv at hp hy;cases xv<;>cases yv<;>simp only[aU.run]at hp<;>first|cases hp|skip
  rename_i s k iv;split at hp
  ·rename_i h0i
   split at hp
   ·rename_i b hb
    simp only[Option.some.injEq,List.cons.injEq,and_true]at hp;subst hp;refine⟨_,.int _ _,?_⟩;unfold execOp;simp only[ho];refine fQ ?_
    have e:(⟨s.toArray⟩:ByteArray)[iv.toNat]?=some b:=by
     have:iv.toNat<s.length:=by
      rcases Zbz iv.toNat s.length with h|h
      ·exact h
      ·rw[Ac0 h]at hb;cases hb
     rw[getElem?_pos (⟨s.toArray⟩:ByteArray) iv.toNat (by simpa[ByteArray.size] using this)];rw[Zbf this]at hb;rw[<- hb];rfl
    simp only[Instr.index,hy.int_inv,hx.str_inv,asIntOf,Sem.run_bind,Sem.run_pure,Result.andThen_ok,run_underlying f.und,if_pos h0i,e]
   ·cases hp
  ·cases hp
 ·cases h0
theorem yK (hR:R E.ntmps F σ ρ a w G)(hg:gOn ρ g=true):∀ {xs:List Operand} {ts:List TypeId} {ph:List SV},(zU E g xs ts).eval σ=some ph ->
  ph.length=xs.length/\∀ (i:Nat) (sv:SV) (x:Operand),ph[i]?=some sv->xs[i]?=some x->cB σ ρ G w sv (a.eval x)
 | [], ts, ph, h => by
  simp only[zU,aF,Option.some.injEq]at h;subst h;simp
 | x :: xs, ts, ph, h => by
  simp only[zU,aA,Zbc,aF,Option.some.injEq]at h;obtain⟨sv,h1,l,h2,rfl⟩:=h;obtain⟨h3,h4⟩:=yK hR hg h2;refine⟨by simp[h3],fun i sv' x' hi hx=>?_⟩
  cases i with
  | zero =>
   simp only[Zbl,Option.some.injEq]at hi hx;subst hi hx;exact gD hR hg h1
  | succ i =>
   simp only[Acl]at hi hx;exact h4 i sv' x' hi hx
theorem Da8:∀ {ph:List SV} {ls:List aR},vB ph=some ls->ls.length=ph.length/\∀ (i:Nat) (l:aR),ls[i]?=some l->ph[i]?=some (.one l)
 | [], ls, h => by
  simp only[vB,Option.some.injEq]at h;subst h;simp
 | .one l :: r, ls, h => by
  simp only[vB,Zbo]at h;obtain⟨m,h1,rfl⟩:=h;obtain⟨h2,h3⟩:=Da8 h1;refine⟨by simp[h2],fun i l' hi=>?_⟩
  cases i with
  |zero=>simp only[Zbl,Option.some.injEq]at hi ⊢;rw[hi]
  |succ i=>simp only[Acl]at hi ⊢;exact h3 i l' hi
 |.dead::_,_,h=>by simp[vB]at h
 |.agg _::_,_,h=>by simp[vB]at h
 |.tup _::_,_,h=>by simp[vB]at h
theorem Kae (hR:R E.ntmps F σ ρ a w G)(hd:fG E.ntmps o){nv:Nat}{fn:FuncId}{first fu:Array Operand}(ho:o.op=.makeFunc (.func fn) first fu){res:bP}
  (h:(do
   bM first.isEmpty
   let vs <- zU E g fu.toList []
   let ls <- nL (vB vs)
   tX o g [] (.one (.clo fn ls)) []:RdM bP).eval σ=some res) (hs:aN cf ρ g nv res.lets):gV P E F σ ρ a w g o Q res.upd:=by
 simp only[aA,Zbc,aK,aW]at h;obtain⟨_,h0,ph,h1,ls,vn,h2⟩:=h;split at h0
 ·rename_i hf
  refine dQ hR hd h2 hs fun hg _=>⟨.func (.func fn) #[] (fu.map a.eval),?_,?_⟩
  ·obtain⟨h3,h4⟩:=yK hR hg h1
   simp only[cB,aB];obtain⟨h5,h6⟩:=Da8 vn;refine⟨fu.toList.map a.eval,by rw[<- Array.toList_map,Array.toArray_toList],.of_get (by simp[h3,h5]) fun i l v hi hv=>?_⟩;simp only[Zb2,Zbo]at hv;obtain⟨x,hv,rfl⟩:=hv;exact h4 i _ x (h6 i l hi) hv
  ·unfold execOp
   simp only[ho];refine fQ ?_;have:first=#[]:=by simpa using hf
   subst this;simp[Instr.makeFunc]
 ·cases h0
theorem Kad (hR:R E.ntmps F σ ρ a w G)(hd:fG E.ntmps o){nv:Nat}{x:Operand}(ho:o.op=.nilCheck x){res:bP}
  (h:(do
   match <- rdL E g 0 x with
   | .rp deps sz y => do
    let ds <- wD deps
    tX o g [.prim .ne [y] 0] (.one (.pe (.sn ds .no false y) sz (.c (.int .i64 0)) 0)) []
   |.px b off=>tX o g [] (.one (.px b off)) []
   |.pe l sz i off=>tX o g [] (.one (.pe l sz i off)) []
   |.clo f cs=>tX o g [] (.one (.clo f cs)) []
   |.pn=>tX o g [.prim .ne [.c (.rows 0 [])] 0] (.one (.pe (.sn [] .no false (.c (.rows 0 []))) 0 (.c (.int .i64 0)) 0)) []
   |_=>.no:RdM bP).eval σ=some res) (hs:aN cf ρ g nv res.lets):gV P E F σ ρ a w g o Q res.upd:=by
 simp only[aA,Zbc]at h;obtain⟨l,h1,h2⟩:=h
 have pT:∀ b,a.eval x=.pointer (some b)->(execOp a.eval o).run P w=.ok (.value (.pointer (some b))) w:=by
  intro b hb;unfold execOp;simp only[ho,hb];rfl
 split at h2
 ·rename_i deps sz y
  simp only[aA,Zbc]at h2;obtain⟨ds,h3,h4⟩:=h2;refine dQ hR hd h4 hs fun hg aE=>?_
  obtain⟨zs,hp,-,-⟩:=step1 aE hg;have hl:=fJ hR hg h1;simp only[aB]at hl;obtain⟨uw,qT,hv3⟩:=jC h3
  rcases hl.2 uw with ⟨e1,z,e2⟩|⟨b,row,e1,e2,e3⟩
  ·simp only[Zb5,Acb,e2,aU.run]at hp
   simp at hp
  ·refine⟨.pointer (some b),?_,pT b e1⟩
   simp only[cB,aB];refine⟨b,1,1,.i64,0,⟨⟨rfl,fun z hz=>hl.1.2 z (qT z hz).1⟩,fun _=>⟨?_,by simp,trivial⟩⟩,rfl,by omega,by simp,by simp[Addr.add]⟩;rw[e2];exact e3.drop hR hv3
 ·rename_i b off
  refine dQ hR hd h2 hs fun hg _=>?_
  have hl:=fJ hR hg h1;have fw:=hl;simp only[aB]at fw;exact⟨_,hl,by rw[fw.1];exact pT _ fw.1⟩
 ·rename_i l' sz i off
  refine dQ hR hd h2 hs fun hg _=>?_
  have hl:=fJ hR hg h1;have fw:=hl;simp only[aB]at fw;obtain⟨b,n,c,k,iv,-,-,-,-,e⟩:=fw;exact⟨_,hl,by rw[e];exact pT _ e⟩
 ·rename_i f cs
  refine dQ hR hd h2 hs fun hg _=>?_
  have hl:=fJ hR hg h1;have fw:=hl;simp only[aB]at fw;obtain⟨vs,e,-⟩:=fw;refine⟨_,hl,?_⟩;unfold execOp;simp only[ho,e];rfl
 ·refine dQ hR hd h2 hs fun hg aE=>?_
  obtain⟨zs,hp,-,-⟩:=step1 aE hg;simp[aL.val,aU.run]at hp
 ·cases h2
theorem Fbr {op:BinOp}{x y:Value}{dx dy d:D}(hx:Sc x dx)(hy:Sc y dy)(h:Oba op dx dy=some d)(ke:op=.lss\/op=.gtr) :
  ∃ v,Sc v d/\(if op=.lss then Builtin.min2 x y else Builtin.max2 x y).run P w=.ok v w:=by
 unfold Oba at h;split at h
 ·rename_i k x' k' y'
  rw[hx.int_inv,hy.int_inv];split at h
  ·rename_i hk
   subst hk;obtain rfl:=Option.some.inj h;refine⟨_,.int _ _,?_⟩
   rcases ke with rfl|rfl
   ·simp[Builtin.min2]
   ·simp[Builtin.max2]
  ·cases h
 ·cases h
theorem Ua2 {op:BinOp}(ke:op=.lss\/op=.gtr):∀ {vs:List Value} {ds:List D} {x:Value} {dx d:D},Sc x dx->vs.length=ds.length->(∀ (i:Nat) (v:Value) (e:D),vs[i]?=some v->ds[i]?=some e->Sc v e) ->
  Na1 op dx ds=some d->∃ v,Sc v d/\(vs.foldlM (fun a b=>if op=.lss then Builtin.min2 a b else Builtin.max2 a b) x).run P w=.ok v w
 | [], ds, x, dx, d, hx, hl, _, h => by
  obtain rfl:ds=[]:=Acu (by simpa using hl.symm);simp only[Na1,Option.some.injEq]at h;subst h;exact⟨x,hx,rfl⟩
 | v :: vs, ds, x, dx, d, hx, hl, hg, h => by
  cases ds with
  |nil=>simp at hl
  | cons e es =>
   simp only[Na1,Zbc]at h;obtain⟨z,h1,h2⟩:=h;obtain⟨u,h3,h4⟩:=Fbr (P:=P) (w:=w) hx (hg 0 v e rfl rfl) h1 ke;obtain⟨r,h5,h6⟩:=Ua2 ke (vs:=vs) (ds:=es) h3 (by simpa using hl) (fun i v' e' hi he=>hg (i+1) v' e' hi he) h2;refine⟨r,h5,?_⟩;rw[List.foldlM_cons,Sem.run_bind,h4];exact h6
theorem Mae (hg:gOn ρ g=true):∀ {ls:List aR} {xs:List aL},Ja0 g ls=some xs->xs.length=ls.length /\
  ∀ (i:Nat) (l:aR) (x:aL) (v:Value),ls[i]?=some l->xs[i]?=some x->aB σ ρ G w l v->Sc v (x.val ρ)
 | [], xs, h => by
  simp only[Ja0,Option.some.injEq]at h;subst h;simp
 | l :: ls, xs, h => by
  simp only[Ja0,Zbc,Zbo]at h;obtain⟨x,h1,ys,h2,rfl⟩:=h;obtain⟨h3,h4⟩:=Mae hg h2;refine⟨by simp[h3],fun i l' x' v hi hx hl=>?_⟩
  cases i with
  | zero =>
   simp only[Zbl,Option.some.injEq]at hi hx;subst hi hx;exact jZ hg h1 hl
  | succ i =>
   simp only[Acl]at hi hx;exact h4 i l' x' v hi hx hl
theorem iK (hR:R E.ntmps F σ ρ a w G)(hd:fG E.ntmps o){nv:Nat}{args:Array Operand}{argTypes:Array TypeId}{b:Builtin}{p:aU}{op:BinOp}
  (hb:(b=.min/\p=.min/\op=.lss)\/(b=.max/\p=.max/\op=.gtr))
  (ho:o.op=.call { callee:=.builtin b,args,argTypes }) {ph:List SV} {ts:List TypeId} {ls:List aR} {xs:List aL} {res:bP}
  (h1:(zU E g args.toList ts).eval σ=some ph) (h2:vB ph=some ls) (h3:Ja0 g ls=some xs)
  (h:(tV o g nv p xs).eval σ=some res) (hs:aN cf ρ g nv res.lets):gV P E F σ ρ a w g o Q res.upd:=by
 refine dK hR hd h hs fun hg d hp=>?_
 obtain⟨h4,h5⟩:=yK hR hg h1;obtain⟨h6,h7⟩:=Da8 h2;obtain⟨h8,h9⟩:=Mae (σ:=σ) (ρ:=ρ) (G:=G) (w:=w) hg h3
 have cU:∀ (i:Nat) (v:Value) (e:D),(args.toList.map a.eval)[i]?=some v->(xs.map (·.val ρ))[i]?=some e->Sc v e:=by
  intro i v e hv he;simp only[Zb2,Zbo]at hv he;obtain⟨x,hx,rfl⟩:=hv;obtain⟨y,hy,rfl⟩:=he
  have hlt:i<ls.length:=by
   rw[<- h8];exact (List.getElem?_eq_some_iff.1 hy).1
  have hl:ls[i]?=some ls[i]:=Zbf hlt;exact h9 i _ y _ hl hy (h5 i _ x (h7 i _ hl) hx)
 have hlen:(args.toList.map a.eval).length=(xs.map (·.val ρ)).length:=by
  simp only[Zbt];omega
 generalize lk:args.toList.map a.eval=vs at cU hlen;generalize hes:xs.map (·.val ρ)=es at cU hlen hp
 have e9:args.map a.eval=vs.toArray:=by
  apply Cc5;simpa using lk
 cases es with
 |nil=>rcases hb with ⟨-,rfl,-⟩ | ⟨-,rfl,-⟩<;>simp[aU.run]at hp
 | cons e es =>
  cases vs with
  |nil=>simp at hlen
  | cons v vs =>
   have hf:Na1 op e es=some d:=by
    rcases hb with ⟨-,rfl,rfl⟩|⟨-,rfl,rfl⟩<;>simpa[aU.run] using hp
   obtain⟨r,cL,ef⟩:=Ua2 (P:=P) (w:=w) (op:=op) (by rcases hb with ⟨-,-,rfl⟩|⟨-,-,rfl⟩<;>simp) (cU 0 v e rfl rfl) (by simpa using hlen)
    (fun i v' e' hi he=>cU (i+1) v' e' hi he) hf
   refine⟨r,cL,?_⟩
   rcases hb with ⟨rfl,rfl,rfl⟩|⟨rfl,rfl,rfl⟩
   ·refine mJ ho (s:=Builtin.min_ argTypes o.type (args.map a.eval)) (fun _=>rfl) ?_
    rw[e9];simpa[Builtin.min_] using ef
   ·refine mJ ho (s:=Builtin.max_ argTypes o.type (args.map a.eval)) (fun _=>rfl) ?_
    rw[e9];simpa[Builtin.max_] using ef
end
section
variable {P:Program} {E:Env} {F:bH} {σ:Nat->Option aS} {ρ:List D} {a:Act} {w w':World} {G:Gh} {g:Option (aL×Bool)} {o:Oper} {cf:Nat->List D->Option (List D)} {Q:Exit->Act->World->Prop} {next:Act->World->Prop}
def Scs (vs:List Value)(ds:List D):Prop:=vs.length=ds.length/\∀ (i:Nat) (v:Value) (d:D),vs[i]?=some v->ds[i]?=some d->Sc v d
theorem Scs.drop {vs:List Value}{ds:List D}(h:Scs vs ds)(k:Nat):Scs (vs.drop k) (ds.drop k) :=
 ⟨by simp[h.1],fun i v d hv hd=>by rw[Acg]at hv hd;exact h.2 _ v d hv hd⟩
theorem Scs.take {vs:List Value}{ds:List D}(h:Scs vs ds)(k:Nat):Scs (vs.take k) (ds.take k) :=
 ⟨by simp[h.1],fun i v d hv hd=>by
  rw[Acs]at hv hd;split at hv
  ·rename_i hk
   rw[if_pos hk]at hd;exact h.2 _ v d hv hd
  ·cases hv⟩
theorem Jad:∀ {ks ls:List Nat} {a b c d:List D},a.length=ks.length->b.length=ks.length->∀ {r:Bool},Ra6 (ks++ls) (a++c) (b++d)=some r ->
  ∃ r1,Ra6 ks a b=some r1/\(r1=true->Ra6 ls c d=some r)/\(r1=false->r=false)
 |[],ls,[],[],c,d,_,_,r,h=>⟨true,rfl,fun _=>h,fun h=>by cases h⟩
 | k :: ks, ls, x :: a, y :: b, c, d, h1, h2, r, h => by
  simp only[Bch,Ra6,Zbc]at h;obtain⟨e,h3,h4⟩:=h
  cases e with
  | true =>
   simp only[if_true]at h4;obtain⟨r1,h5,h6,h7⟩:=Jad (by simpa using h1) (by simpa using h2) h4;exact⟨r1,by simp[Ra6,h3,h5],h6,h7⟩
  | false =>
   simp only[Zbg,if_false,Option.some.injEq]at h4;exact⟨false,by simp[Ra6,h3],(fun h=>by cases h),fun _=>h4.symm⟩
 |[],_,_::_,_,_,_,h,_,_,_=>by simp at h
 |[],_,[],_::_,_,_,_,h,_,_=>by simp at h
 |_::_,_,[],_,_,_,h,_,_,_=>by simp at h
 |_::_,_,_::_,[],_,_,_,h,_,_=>by simp at h
theorem Obo (l m:List UInt8):((⟨l.toArray⟩:ByteArray)==⟨m.toArray⟩)=(l==m):=by
 have:((⟨l.toArray⟩:ByteArray)==⟨m.toArray⟩)=(l.toArray==m.toArray):=rfl;rw[this];simp
theorem Yb7 {x y:D}{r:Bool}(h:eqD 0 x y=some r):∃ k i j,x=.int k i/\y=.int k j/\r=(i==j):=by
 cases x<;>cases y<;>simp only[eqD]at h<;>first|cases h|skip
 split at h
 ·rename_i e
  subst e;exact⟨_,_,_,rfl,rfl,(Option.some.inj h).symm⟩
 ·cases h
theorem Yb6 {x y:D}{r:Bool}(h:eqD 1 x y=some r):∃ i j,x=.bool i/\y=.bool j/\r=(i==j):=by
 cases x<;>cases y<;>simp only[eqD]at h<;>first|(cases h;done)|skip
 exact⟨_,_,rfl,rfl,(Option.some.inj h).symm⟩
theorem Yb5 {x y:D}{r:Bool}(h:eqD 2 x y=some r):∃ i j,x=.str i/\y=.str j/\r=(i==j):=by
 cases x<;>cases y<;>simp only[eqD]at h<;>first|(cases h;done)|skip
 exact⟨_,_,rfl,rfl,(Option.some.inj h).symm⟩
theorem Sbn {x y:D}{r:Bool}(h:eqD 3 x y=some r):False:=by
 cases x<;>cases y<;>simp[eqD]at h
theorem Sbm {t:TypeId}{x y:Value}{dx dy:D}{b:Bool}(hx:Sc x dx)(hy:Sc y dy)(h:eqD (Far (nS P t)) dx dy=some b)(n:Nat):(Op.equalIn (n+1) t x y).run P w=.ok b w:=by
 unfold nS at h;split at h
 ·rename_i k hu
  obtain⟨k1,i,j,rfl,rfl,rfl⟩:=Yb7 h;simp[Op.equalIn,run_underlying hu,hx.int_inv,hy.int_inv]
 ·rename_i hu
  obtain⟨i,j,rfl,rfl,rfl⟩:=Yb6 h;simp[Op.equalIn,run_underlying hu,hx.bool_inv,hy.bool_inv]
 ·rename_i hu
  obtain⟨l,m,rfl,rfl,rfl⟩:=Yb5 h;simp only[Op.equalIn,run_underlying hu,hx.str_inv,hy.str_inv,Sem.run_bind,Result.andThen_ok,Sem.run_pure];rw[Obo]
 ·exact (Sbn h).elim
 ·exact (Sbn h).elim
 ·exact (Sbn h).elim
def qW (P:Program)(t:TypeId)(vs:List Value)(v:Value):Prop:=match P.underlying t with
 |some (.struct _)=>v=.agg vs.toArray
 |_=>vs=[v]
theorem Qa3 (P:Program)(d:Nat):∀ (fs:List Field) (acc l:List TypeId),fs.foldl (fun acc f=>acc.bind fun l=>(flat P d f.type).bind fun m=>bif Nat.beq f.offset l.length then some (l++m) else none) (some acc)=some l ->
  ∃ ls,l=acc++ls/\(∀ f r,fs=f::r->∃ m,flat P d f.type=some m/\f.offset=acc.length/\∃ kk,ls=m++kk/\r.foldl (fun acc f=>acc.bind fun l=>(flat P d f.type).bind fun m=>bif Nat.beq f.offset l.length then some (l++m) else none) (some (acc++m))=some l)/\(fs=[]->ls=[])
 | [], acc, l, h => by
  simp only[List.foldl_nil,Option.some.injEq]at h;exact⟨[],by simp[h],by simp,fun _=>rfl⟩
 | f :: r, acc, l, h => by
  simp only[List.foldl_cons,Zbj]at h
  cases hm:flat P d f.type with
  | none =>
   rw[hm]at h;simp only[Option.bind_none]at h
   have:∀ (r:List Field),r.foldl (fun acc f=>acc.bind fun l=>(flat P d f.type).bind fun m=>bif Nat.beq f.offset l.length then some (l++m) else none) (none:Option (List TypeId))=none:=by
    intro r
    induction r with
    |nil=>rfl
    |cons _ _ ih=>simpa using ih
   rw[this]at h;cases h
  | some m =>
   rw[hm]at h;simp only[Zbj]at h
   cases ho:Nat.beq f.offset acc.length with
   | false =>
    rw[ho]at h;simp only[cond_false]at h
    have:∀ (r:List Field),r.foldl (fun acc f=>acc.bind fun l=>(flat P d f.type).bind fun m=>bif Nat.beq f.offset l.length then some (l++m) else none) (none:Option (List TypeId))=none:=by
     intro r
     induction r with
     |nil=>rfl
     |cons _ _ ih=>simpa using ih
    rw[this]at h;cases h
   | true =>
    rw[ho]at h;simp only[cond_true]at h;obtain⟨ls,h1,-,-⟩:=Qa3 P d r (acc++m) l h;refine⟨m++ls,by rw[h1,List.append_assoc],fun f' r' e=>?_,by simp⟩;obtain⟨rfl,rfl⟩:=List.cons.inj e;exact⟨m,hm,by simpa using ho,ls,rfl,h⟩
theorem uU {α:Type}(l:List α)(k m:Nat):(l.drop k).take m++l.drop (k+m)=l.drop k:=by
 rw[<- List.drop_drop,List.take_append_drop]
theorem Dag {t:TypeId}{d:Nat}{m:List TypeId}(hm:flat P d t=some m)(hs:Rbm P d t=true)(hc:Oaa P d t=true){vs:List Value}{off:Nat}(hl:off+m.length<=vs.length) :
  ∃ v,qW P t ((vs.drop off).take m.length) v/\(part t vs.toArray off).run P w=.ok v w:=by
 unfold Rbm at hs;rw[hm]at hs
 cases hi:P.info? t with
 |none=>rw[hi]at hs;cases hs
 | some i =>
  rw[hi]at hs;simp only[Zb8]at hs
  cases d with
  |zero=>cases hc
  | succ d =>
   simp only[Oaa]at hc;simp only[flat]at hm
   cases hu:P.underlying t with
   |none=>rw[hu]at hm;cases hm
   | some u =>
    unfold qW;rw[hu]at hc hm ⊢;simp only[part,Sem.run_bind,Pav hu,Result.andThen_ok,run_sizeOf hi,Sem.run_ite];cases u<;>first|(cases hc;done)|skip
    case struct fs =>
     refine⟨_,rfl,?_⟩;simp only[Kas,if_true,Sem.run_bind,run_sizeOf hi,Result.andThen_ok,Sem.run_pure,<- hs];congr 2;apply Cc5;simp[List.extract_eq_take_drop]
    all_goals
     simp only[Option.some.injEq]at hm;subst hm;have hlt:off<vs.length:=by simp only[Ac1]at hl;omega
     refine⟨vs[off],?_,?_⟩
     ·simp only[Ac1]
      rw[List.drop_eq_getElem_cons hlt];rfl
     ·simp[Kas,Zbf hlt]
theorem Jac (P:Program)(w:World):∀ (d:Nat) (t:TypeId) (l:List TypeId),Oaa P d t=true->flat P d t=some l->∀ (xs ys:List Value) (dx dy:List D) (b:Bool) (x y:Value),
  Scs xs dx->Scs ys dy->xs.length=l.length->ys.length=l.length->qW P t xs x->qW P t ys y->Ra6 (l.map fun t=>Far (nS P t)) dx dy=some b ->
  ∀ n,d<=n->(Op.equalIn n t x y).run P w=.ok b w
 |0,t,l,hc,_=>by cases hc
 | d + 1, t, l, hc, hf => by
  intro xs ys dx dy b x y hx hy yp hly wk wq he n hn;obtain⟨n,rfl⟩:∃ m,n=m+1:=⟨n-1,by omega⟩
  have vk:(∀ fs,P.underlying t≠some (.struct fs))->flat P (d+1) t=some [t]->(Op.equalIn (n+1) t x y).run P w=.ok b w:=by
   intro yn hft;rw[hf]at hft;obtain rfl:=Option.some.inj hft
   have h1:xs=[x]:=by
    unfold qW at wk;split at wk
    ·rename_i fs hu;exact absurd hu (yn fs)
    ·exact wk
   have h2:ys=[y]:=by
    unfold qW at wq;split at wq
    ·rename_i fs hu;exact absurd hu (yn fs)
    ·exact wq
   subst h1 h2
   match dx,dy,hx.1,hy.1 with
   | [dx], [dy], _, _ =>
    simp only[Zb5,Acb,Ra6,Zbc]at he;obtain⟨e,h3,h4⟩:=he;have:e=b:=by cases e<;>simpa using h4
    subst this;exact Sbm (hx.2 0 x dx rfl rfl) (hy.2 0 y dy rfl rfl) h3 n
  simp only[Oaa]at hc;simp only[flat]at hf
  cases hu:P.underlying t with
  |none=>rw[hu]at hc;cases hc
  | some u =>
   rw[hu]at hc hf;cases u<;>first|(cases hc;done)|skip
   case struct fs =>
    simp only[Zbd,Zb3,Zb6]at hc;obtain⟨zE,cU⟩:=hc;have qj:x=.agg xs.toArray:=by unfold qW at wk;rw[hu]at wk;exact wk
    have sd:y=.agg ys.toArray:=by unfold qW at wq;rw[hu]at wq;exact wq
    subst qj sd;have hfs:P.fieldsOf t=fs:=by simp[Program.fieldsOf,hu]
    rw[run_equalIn_struct (P:=P) w n t _ _ (by rw[hfs];exact hu) zE,hfs];dsimp only at hf;generalize hgl:fs.toList=gs at hf cU
    have key : ∀ (gs : List Field) (acc : List TypeId) (b : Bool), (∀ f ∈ gs, (f.name != "_") = true /\ Oaa P d f.type = true /\ Rbm P d f.type = true) ->
      gs.foldl (fun acc f=>acc.bind fun l=>(flat P d f.type).bind fun m=>bif Nat.beq f.offset l.length then some (l++m) else none) (some acc)=some l ->
      Ra6 ((l.drop acc.length).map fun t=>Far (nS P t)) (dx.drop acc.length) (dy.drop acc.length)=some b ->
      (Op.eqFields n xs.toArray ys.toArray gs).run P w=.ok b w:=by
     intro gs
     induction gs with
     | nil =>
      intro acc b _ re hq;simp only[List.foldl_nil,Option.some.injEq]at re;subst re;have e1:dx.drop acc.length=[]:=List.drop_of_length_le (by rw[<- hx.1];omega);have e2:dy.drop acc.length=[]:=List.drop_of_length_le (by rw[<- hy.1];omega);simp only[List.drop_length,Acb,e1,e2,Ra6,Option.some.injEq]at hq;subst hq;simp[Op.eqFields]
     | cons f r ih =>
      intro acc b n4 re hq;obtain⟨ls,e1,h1,-⟩:=Qa3 P d (f::r) acc l re;obtain⟨m,hm,pA,kk,e2,za⟩:=h1 f r rfl;obtain⟨hname,xh,dw⟩:=n4 f Zbu;have hlen:acc.length+m.length<=l.length:=by rw[e1,e2];simp
      have pC:l.drop acc.length=m++kk:=by rw[e1,e2];simp
      rw[pC,Ac8]at hq;rw[<- uU dx acc.length m.length,<- uU dy acc.length m.length]at hq
      have oz:((dx.drop acc.length).take m.length).length=(m.map fun t=>Far (nS P t)).length:=by
       simp only[Zb1,Acv,Zbt,<- hx.1];omega
      have jh:((dy.drop acc.length).take m.length).length=(m.map fun t=>Far (nS P t)).length:=by
       simp only[Zb1,Acv,Zbt,<- hy.1];omega
      obtain⟨r1,h2,h3,h4⟩:=Jad oz jh hq;obtain⟨vx,hvx,hpx⟩:=Dag (w:=w) hm dw xh (vs:=xs) (off:=acc.length) (by omega);obtain⟨vy,hvy,hpy⟩:=Dag (w:=w) hm dw xh (vs:=ys) (off:=acc.length) (by omega)
      have heq:=Jac P w d f.type m xh hm _ _ _ _ r1 vx vy ((hx.drop _).take _) ((hy.drop _).take _) (by simp only[Zb1,Acv];omega)
       (by simp only[Zb1,Acv];omega) hvx hvy h2 n (by omega)
      have hname' : f.name ≠ "_" := by simpa using hname
      rw[Op.eqFields];simp only[if_pos hname',Sem.run_bind,pA,hpx,hpy,heq,Result.andThen_ok]
      cases r1 with
      | false =>
       obtain rfl:=h4 rfl;simp
      | true =>
       have:=ih (acc++m) b (fun f' hf'=>n4 f' (Zbn _ hf')) za (by
        rw[List.length_append,<- List.drop_drop,pC];simpa using h3 rfl)
       simpa using this
    exact key gs [] b (fun f hf'=>by
     have:=cU f hf';exact⟨this.1.1,this.1.2,this.2⟩) hf (by simpa using he)
   all_goals exact vk (by intro fs e;rw[hu]at e;cases e) (by simp[flat,hu])
theorem Jaz:∀ {ls:List aR} {xs:List aL} {vs:List Value},atoms ls=some xs->aG σ ρ G w ls vs->Scs vs (xs.map (·.val ρ))/\xs.length=ls.length
 | [], xs, vs, h, hl => by
  simp only[atoms,Option.some.injEq]at h;simp only[aG]at hl;subst h hl;exact⟨⟨rfl,by simp⟩,rfl⟩
 | l :: ls, xs, vs, h, hl => by
  cases l<;>simp only[atoms]at h<;>first|(cases h;done)|skip
  simp only[Zbo]at h;obtain⟨ys,h1,rfl⟩:=h;simp only[aG]at hl;obtain⟨u,us,rfl,h2,h3⟩:=hl;obtain⟨⟨h4,h5⟩,h6⟩:=Jaz h1 h3;refine⟨⟨by simpa using h4,fun i v d hv hd=>?_⟩,by simp[h6]⟩
  cases i with
  | zero =>
   simp only[Zbl,Zb5,Option.some.injEq]at hv hd;subst hv hd;simpa[aB] using h2
  | succ i =>
   simp only[Zb5,Acl]at hv hd;exact h5 i v d hv hd
theorem Haw (hR:R E.ntmps F σ ρ a w G)(hd:fG E.ntmps o){nv:Nat}{p:aU}{xs:List aL}{neg:Bool}{op:BinOp}{t ty:TypeId}{x y:Operand}
  (ho:o.op=.binOp op t x y ty) (ke:op=if neg then .neq else .eql) {res:bP}
  (h:(RdM.ret ⟨[.prim p xs 1]++(bif neg then [.prim .not [.v nv] 1] else []),match o.dst with|some d=>[(kT d,aS.slot none (mkS g (.v (bif neg then nv+1 else nv))))]|none=>[]⟩:RdM bP).eval σ=some res)
  (hs:aN cf ρ g nv res.lets)
  (hv:gOn ρ g=true->∀ d,p.run (xs.map (·.val ρ))=some [d]->∃ b,d=.bool b/\(eqGuard op t x y (a.eval x) (a.eval y)).run P w=.ok () w /\
   (binOp op t (a.eval x) (a.eval y)).run P w=.ok (.bool (if neg then !b else b)) w):gV P E F σ ρ a w g o Q res.upd:=by
 simp only[aF,Option.some.injEq]at h;subst h;simp only[Faw]
 cases neg with
 | false =>
  simp only[cond_false,Zb4]at hs ⊢;refine⟨fun hg=>?_,fun hg=>Jbt hR hd hg (Han hs hg)⟩;obtain⟨d,h1,h2⟩:=fV hs hg;obtain⟨b,rfl,h3,h4⟩:=hv hg d h1;refine Ma2 hR hd hg (v:=.bool b) ?_ (by rw[h2];exact .bool _);unfold execOp;simp only[ho];refine fQ ?_;rw[Sem.run_bind,h3];exact h4
 | true =>
  simp only[cond_true]at hs ⊢;have oB:aN cf ρ g nv [.prim p xs 1]:=⟨hs.1,trivial⟩;have ll:aN cf ρ g (nv+1) [.prim .not [.v nv] 1]:=⟨hs.2.1,trivial⟩;refine⟨fun hg=>?_,fun hg=>Jbt hR hd hg (Han ll hg)⟩;obtain⟨d,h1,h2⟩:=fV oB hg;obtain⟨e,h5,h6⟩:=fV ll hg;obtain⟨b,rfl,h3,h4⟩:=hv hg d h1;simp only[Zb5,Acb,h2,aU.run,Option.some.injEq,List.cons.injEq,and_true]at h5;subst h5;refine Ma2 hR hd hg (v:=.bool (!b)) ?_ (by rw[h6];exact .bool _);unfold execOp;simp only[ho];refine fQ ?_;rw[Sem.run_bind,h3];exact h4
theorem Bay {neg:Bool}{op:BinOp}(ke:op=if neg then .neq else .eql){t:TypeId}{x y:Value}{b:Bool}(h:(Op.equal t x y).run P w=.ok b w)
  (hx:∀ k n,x≠.int k n) (hs:∀ s,x≠.string s) (hf:∀ k b,x≠.float k b) (hc:∀ k r i,x≠.complex k r i):(binOp op t x y).run P w=.ok (.bool (if neg then !b else b)) w:=by
 cases neg with
 | false =>
  simp only[Zbg,if_false]at ke;subst ke;unfold binOp
  cases x<;>first
   |exact absurd rfl (hx _ _)
   |exact absurd rfl (hs _)
   |exact absurd rfl (hf _ _)
   |exact absurd rfl (hc _ _ _)
   |(cases y<;>simp[h])
 | true =>
  simp only[if_true]at ke;subst ke;unfold binOp
  cases x<;>first
   |exact absurd rfl (hx _ _)
   |exact absurd rfl (hs _)
   |exact absurd rfl (hf _ _)
   |exact absurd rfl (hc _ _ _)
   |(cases y<;>simp[h])
theorem nO {op:BinOp}{t:TypeId}{x y:Operand}{u v:Value}(h1:u≠.nilIface)(h2:(∀ c,u≠.agg c)\/P.eqGuardType P.depth t=false):(eqGuard op t x y u v).run P w=.ok () w:=by
 unfold eqGuard
 rcases h2 with h2|h2
 ·cases op<;>cases u<;>cases v<;>first|rfl|exact absurd rfl h1|exact absurd rfl (h2 _)
 ·cases op<;>cases u<;>cases v<;>first|rfl|exact absurd rfl h1|simp[h2]
theorem Hbm {t:TypeId}{i:TI}{info:TypeInfo}{u:TypeDesc}(f:dB P t i info u)(h:i.isBool=true):u=.bool:=by
 have:Taf u=true:=by rw[<- h,f.eq];rfl
 unfold Taf at this;split at this
 ·rfl
 ·cases this
theorem Jbn {t:TypeId}{i:TI}{info:TypeInfo}{u:TypeDesc}(f:dB P t i info u)(h:i.isPtr=true):∃ e,u=.pointer e:=by
 have:Abw u=true:=by rw[<- h,f.eq];rfl
 unfold Abw at this;split at this
 ·exact⟨_,rfl⟩
 ·cases this
theorem Za4 {neg:Bool}{op:BinOp}(h:op=if neg then .neq else .eql):(bif neg then BinOp.neq else .eql)=op:=by cases neg<;>simp[h]
theorem Ma6 {t:TypeId}{ti:TI}{info:TypeInfo}{u:TypeDesc}(f:dB P t ti info u)(pD:ti.cmp=true){xs ys:List Value}{dx dy:List D}{b:Bool}(hx:Scs xs dx)(hy:Scs ys dy)
  (yp:xs.length=ti.size) (hly:ys.length=ti.size) (h:Ra6 (ti.cells.map Far) dx dy=some b) :
  (Op.equal t (.agg xs.toArray) (.agg ys.toArray)).run P w=.ok b w/\P.eqGuardType P.depth t=false:=by
 have hc:ti.cmp=(Kas u&&Oaa P 12 t&&!(P.eqGuardType P.depth t)):=by rw[f.eq];rfl
 rw[hc]at pD;simp only[Zbd,Zb3]at pD;obtain⟨⟨mi,n4⟩,zv⟩:=pD;have fX:=f.cells;simp only[Zbo]at fX;obtain⟨l,oz,jh⟩:=fX;have hlen:=f.len;rw[<- jh]at hlen h;simp only[Zbt]at hlen;rw[List.map_map]at h
 have aE:∃ fs,u=.struct fs:=by
  have hu:=f.und;simp only[Oaa,hu]at n4;cases u<;>first|(cases mi;done)|(cases n4;done)|exact⟨_,rfl⟩
 obtain⟨fs,rfl⟩:=aE;refine⟨?_,zv⟩;exact Jac P w 12 t l n4 oz xs ys dx dy b _ _ hx hy (by omega) (by omega) (by unfold qW;rw[f.und]) (by unfold qW;rw[f.und]) h 10000 (by omega)
theorem Bbo {t:TypeId}(hu:P.underlying t=some .bool)(b c:Bool)(n:Nat):(Op.equalIn (n+1) t (.bool b) (.bool c)).run P w=.ok (b==c) w:=by
 simp[Op.equalIn,run_underlying hu]
theorem Gbq {t e:TypeId}(hu:P.underlying t=some (.slice e))(x y p q:Nat)(n:Nat):(Op.equalIn (n+1) t (.slice none x y) (.slice none p q)).run P w=.ok true w:=by
 simp[Op.equalIn,run_underlying hu]
theorem Bbn {t e:TypeId}(hu:P.underlying t=some (.slice e))(a:Addr)(x y p q:Nat)(n:Nat):(Op.equalIn (n+1) t (.slice (some a) x y) (.slice none p q)).run P w=.ok false w:=by
 simp[Op.equalIn,run_underlying hu]
theorem Gbp {t e:TypeId}(hu:P.underlying t=some (.pointer e))(A:Option Addr)(n:Nat):(Op.equalIn (n+1) t (.pointer A) (.pointer none)).run P w=.ok A.isNone w:=by
 cases A<;>simp[Op.equalIn,run_underlying hu]
theorem Uav (hR:R E.ntmps F σ ρ a w G)(hd:fG E.ntmps o)(hti:vN P E.ti){nv:Nat}{neg:Bool}{op:BinOp}{t ty:TypeId}{x y:Operand}
  (ho:o.op=.binOp op t x y ty) (ke:op=if neg then .neq else .eql) {res:bP}
  (h:(Rbn E nv o g neg t x y).eval σ=some res) (hs:aN cf ρ g nv res.lets):gV P E F σ ρ a w g o Q res.upd:=by
 unfold Rbn at h;simp only[aA,Zbc]at h;obtain⟨va,h1,vb,h2,h3⟩:=h;split at h3
 ·
  rename_i ls ms;simp only[aA,Zbc,tiR,aW]at h3;obtain⟨ti,hi,h4⟩:=h3;obtain⟨info,u,f⟩:=aX (hti.ok _ _ hi);split at h4
  ·rename_i xs ys ny ma
   simp only[aA,Zbc,aK]at h4;obtain⟨_,h5,h6⟩:=h4;split at h5
   ·rename_i hb
    simp only[Zbd,Zb8]at hb;obtain⟨⟨pD,yp⟩,hly⟩:=hb;refine Haw hR hd ho ke h6 hs fun hg d hp=>?_
    obtain⟨vx,ex,a5b⟩:=gD hR hg h1;obtain⟨vy,ey,a42⟩:=gD hR hg h2;obtain⟨ov,l8⟩:=Jaz ny a5b;obtain⟨yf,xe⟩:=Jaz ma a42;have iz:(ti.cells.map Far).length=xs.length:=by rw[Zbt,f.len];omega
    simp only[aU.run,iz,Ac8,Zbt,Zbo,List.cons.injEq,and_true]at hp;obtain⟨b,hp,rfl⟩:=hp;rw[List.take_left' (by simp),List.drop_left' (by simp)]at hp;have a7g:=ov.1;have a5j:=yf.1;simp only[Zbt]at a7g a5j;obtain⟨h7,h8⟩:=Ma6 (w:=w) f pD ov yf (by omega) (by omega) hp;refine⟨b,rfl,?_,?_⟩
    ·rw[ex];exact nO (by simp) (.inr h8)
    ·rw[ex,ey];exact Bay ke h7 (by simp) (by simp) (by simp) (by simp)
   ·cases h5
  ·cases h4
 ·rename_i l m
  simp only[aA,Zbc,tiR,aW]at h3;obtain⟨ti,hi,h4⟩:=h3;obtain⟨info,u,f⟩:=aX (hti.ok _ _ hi);split at h4
  ·
   rename_i p q hp hq;rw[iA]at h4;have hx:gOn ρ g=true->Sc (a.eval x) (p.val ρ):=fun hg=>jZ hg hp (gD hR hg h1)
   have hy:gOn ρ g=true->Sc (a.eval y) (q.val ρ):=fun hg=>jZ hg hq (gD hR hg h2)
   split at h4
   ·rename_i a16
    obtain rfl:=Hbm f a16;refine dK hR hd h4 hs fun hg d pa=>?_
    have hx:=hx hg;have hy:=hy hg;simp only[Zb5,Acb]at pa;generalize p.val ρ=pv at hx pa;generalize q.val ρ=qv at hy pa;cases pv<;>cases qv<;>simp only[aU.run]at pa<;>first|(cases pa;done)|skip
    rename_i b c;simp only[Option.some.injEq,List.cons.injEq,and_true]at pa;subst pa;refine⟨.bool (if neg then !(b==c) else b==c),.bool _,?_⟩;unfold execOp;simp only[ho,hx.bool_inv,hy.bool_inv];refine fQ ?_;rw[Sem.run_bind,nO (by simp) (.inl (by simp))]
    have he:(Op.equal t (.bool b) (.bool c)).run P w=.ok (b==c) w:=by
     unfold Op.equal Op.maxDepth;exact Bbo f.und b c 9999
    exact Bay ke he (by simp) (by simp) (by simp) (by simp)
   ·rw[Za4 ke]at h4
    exact Pao hR hd ho hx hy h4 hs
  ·rw[iA]at h4
   split at h4
   ·
    rename_i fh;simp only[aA,Zbc,aK]at h4;obtain⟨_,h5,s,h6,r0,h8,h7⟩:=h4;split at h5
    ·rename_i hel
     obtain⟨e,rfl⟩:=Jae f hel
     have lq:aN cf ρ g nv r0.lets->(gOn ρ g=true->∀ z,s.x.val ρ=.rows z []->s.nie=true)->gV P E F σ ρ a w g o Q r0.upd:=by
      intro hs cJ;refine Haw hR hd ho ke h8 hs fun hg d hp=>?_
      have hL:=dX hR h6 (gD hR hg h1);simp only[Zb5,Acb]at hp;have im:=hL.rd;have vc:∀ z,s.x.val ρ=.rows z []->a.eval x=.slice none 0 0:=fun z hz=>hL.nie (cJ hg z hz) z hz
      generalize s.x.val ρ=sv at hp im vc;cases sv<;>simp only[aU.run]at hp<;>first|(cases hp;done)|skip
      rename_i sz rs;simp only[Option.some.injEq,List.cons.injEq,and_true]at hp;subst hp;obtain⟨A,b,n,c,vs,e1,e2,e3,e4,-⟩:=im.inv
      have hy:∃ n' c',a.eval y=.slice none n' c':=by
       unfold La4 at fh;split at fh
       ·rename_i n' c';exact⟨n',c',rfl⟩
       ·cases fh
      obtain⟨n',c',hy⟩:=hy;refine⟨rs.isEmpty,rfl,?_,?_⟩
      ·rw[e1];exact nO (by simp) (.inl (by simp))
      ·have he:(Op.equal t (a.eval x) (a.eval y)).run P w=.ok rs.isEmpty w:=by
        unfold Op.equal Op.maxDepth
        cases zu:rs with
        | nil =>
         rw[vc sz (by rw[zu]),hy];exact Gbq f.und _ _ _ _ 9999
        | cons r rs' =>
         have:A=some b:=e4.resolve_left (by rw[<- e2,zu];simp);rw[e1,hy,this];exact Bbn f.und _ _ _ _ _ 9999
       rw[e1]at he ⊢;exact Bay ke he (by simp) (by simp) (by simp) (by simp)
     simp only[aF,Option.some.injEq]at h7;subst h7
     cases hnie:s.nie with
     | true =>
      rw[hnie]at hs;exact lq hs fun _ _ _=>hnie
     | false =>
      rw[hnie]at hs;refine lq hs.2 fun hg z hz=>?_
      obtain⟨ds,h9,-⟩:=hs.1.1 hg;simp only[Zb5,Acb]at h9;rw[hz]at h9;simp[aU.run]at h9
    ·cases h5
   ·rw[iA]at h4
    split at h4
    ·
     rename_i fh;simp only[aA,Zbc,aK]at h4;obtain⟨_,h5,h6⟩:=h4;split at h5
     ·rename_i hpt
      obtain⟨e,rfl⟩:=Jbn f hpt
      have hy:a.eval y=.pointer none:=by
       unfold Vap at fh;split at fh
       ·rfl
       ·cases fh
      have heq:∀ A,a.eval x=.pointer A->(Op.equal t (a.eval x) (a.eval y)).run P w=.ok A.isNone w:=by
       intro A hA;unfold Op.equal Op.maxDepth;rw[hA,hy];exact Gbp f.und A 9999
      have bj:∀ A,a.eval x=.pointer A->(eqGuard op t x y (a.eval x) (a.eval y)).run P w=.ok () w/\(binOp op t (a.eval x) (a.eval y)).run P w=.ok (.bool (if neg then !A.isNone else A.isNone)) w:=by
       intro A hA;refine⟨by rw[hA];exact nO (by simp) (.inl (by simp)),?_⟩;have:=heq A hA;rw[hA]at this ⊢;exact Bay ke this (by simp) (by simp) (by simp) (by simp)
      have hconst:∀ (c:Bool) (nvx:Nat),(tV o g nv .id [.c (.bool c)]).eval σ=some res->(gOn ρ g=true->∃ A,a.eval x=.pointer A/\c=(if neg then !A.isNone else A.isNone))->gV P E F σ ρ a w g o Q res.upd:=by
       intro c _ h7 hc;refine dK hR hd h7 hs fun hg d hp=>?_
       simp only[Zb5,Acb,aL.val,aU.run,Option.some.injEq,List.cons.injEq,and_true]at hp;subst hp;obtain⟨A,hA,rfl⟩:=hc hg;refine⟨_,.bool _,?_⟩;unfold execOp;simp only[ho];refine fQ ?_;rw[Sem.run_bind,(bj A hA).1];exact (bj A hA).2
      split at h6
      ·rename_i deps sz z
       simp only[aA,Zbc]at h6;obtain⟨ds,h7,h8⟩:=h6;refine Haw hR hd ho ke h8 hs fun hg d hp=>?_
       have hl:=gD hR hg h1;simp only[cB,aB]at hl;simp only[Zb5,Acb]at hp
       rcases hl.2 (jC h7).1 with ⟨e1,z',e2⟩|⟨b,row,e1,e2,-⟩
       ·rw[e2]at hp
        simp only[aU.run,List.isEmpty_nil,Option.some.injEq,List.cons.injEq,and_true]at hp;exact⟨true,hp.symm,bj none e1⟩
       ·rw[e2]at hp
        simp only[aU.run,List.isEmpty_cons,Option.some.injEq,List.cons.injEq,and_true]at hp;exact⟨false,hp.symm,bj (some b) e1⟩
      ·refine hconst _ 0 h6 fun hg=>?_
       have hl:=gD hR hg h1;simp only[cB,aB]at hl;exact⟨none,hl,by cases neg<;>rfl⟩
      ·refine hconst _ 0 h6 fun hg=>?_
       have hl:=gD hR hg h1;simp only[cB,aB]at hl;exact⟨_,hl.1,by cases neg<;>rfl⟩
      ·refine hconst _ 0 h6 fun hg=>?_
       have hl:=gD hR hg h1;simp only[cB,aB]at hl;obtain⟨_,_,_,_,_,_,_,_,_,e⟩:=hl;exact⟨_,e,by cases neg<;>rfl⟩
      ·cases h6
     ·cases h5
    ·cases h4
 ·cases h3
end
section
variable {P:Program} {E:Env} {F:bH} {σ:Nat->Option aS} {ρ:List D} {a:Act} {w w':World} {G:Gh} {g:Option (aL×Bool)} {o:Oper} {cf:Nat->List D->Option (List D)} {Q:Exit->Act->World->Prop} {next:Act->World->Prop}
theorem kN {t:TypeId}{i:TI}{info:TypeInfo}{u:TypeDesc}(f:dB P t i info u)(b:Addr)(cs:List Value)(hl:cs.length=i.size)
  (h:∀ j v,cs[j]?=some v->w.cell? (b.add j)=some v) {v:Value} (hv:if i.agg=true then v=.agg cs.toArray else cs=[v]):(loadVar t b).run P w=.ok v w:=by
 unfold loadVar;rw[Sem.run_bind,f.isAgg];simp only[Result.andThen_ok];split at hv
 ·rename_i mi
  rw[if_pos mi,Sem.run_bind,f.sizeOf];simp only[Result.andThen_ok];rw[Sem.run_bind,<- hl,run_loadCells_list w b cs h];simp only[Result.andThen_ok,Sem.run_pure,hv]
 ·rename_i mi
  rw[if_neg mi,run_load];have:=h 0 v (by rw[hv];rfl);simp only[Addr.add,if_true]at this;rw[this]
theorem lS (b:Addr):∀ (ls:List aR) (k:Nat),(∀ j l,ls[j]?=some l->∃ v,w.cell? (b.add (k+j))=some v/\aB σ ρ G w l v) ->
  ∃ vs,aG σ ρ G w ls vs/\∀ j v,vs[j]?=some v->w.cell? (b.add (k+j))=some v
 |[],k,_=>⟨[],by simp[aG],by simp⟩
 | l :: ls, k, h => by
  obtain⟨u,h1,h2⟩:=h 0 l rfl
  obtain⟨us,h3,h4⟩:=lS b ls (k+1) fun j l' hj=>by
   have:=h (j+1) l' (by simpa using hj);rwa[show k+1+j=k+(j+1) by omega]
  refine⟨u::us,by simp only[aG];exact⟨u,us,rfl,h2,h3⟩,fun j v hj=>?_⟩
  cases j with
  | zero =>
   simp only[Zbl,Option.some.injEq]at hj;exact hj▸h1
  | succ j =>
   have:=h4 j v (by simpa using hj);rwa[show k+(j+1)=k+1+j by omega]
theorem zN.snoc {own:Nat->Ow}{r k:Nat}{c:Addr}{n m:Nat}{u':Value}:∀ (p q:List Nat) (v:Value),zN own w r q v p (.slice (some c) n m)->own c.block=.slc r (q++p)->w.cell? (c.add k)=some u'->zN own w r q v (p++[k]) u'
 | [], q, v, h, ho, hc => by
  simp only[zN]at h;simp only[List.nil_append,zN];exact⟨c,n,m,u',h.symm,by simpa using ho,hc,rfl⟩
 | j :: p, q, v, h, ho, hc => by
  obtain⟨a',n',c',u1,rfl,h1,h2,h3⟩:=h;simp only[Bch,zN];exact⟨a',n',c',u1,rfl,h1,h2,zN.snoc p (q++[j]) u1 h3 (by simpa using ho) hc⟩
theorem Rd.sc_inv {ok:Nat->Prop}{v:Value}{d:D}(h:Rd ok w v d)(hd:d.isSc=true):Sc v d:=by
 cases h with
 |sc h=>exact h
 |hole=>simp[D.isSc]at hd
 |rows=>simp[D.isSc]at hd
theorem Rp.zero {own:Nat->Ow}{r:Nat}{p:List Nat}{v:Value}{d:D}(h:Rp own w r p 0 v d):Rd (fun b=>own b=.frz) w v d:=by
 generalize hm:0=m at h
 cases h with
 |sc h=>exact .sc h
 |hole _ h1=>exact .hole _ h1
 |fz h=>exact h
 |sl=>omega
theorem Cbh {s:SlR}{c:Addr}{n cap:Nat}(h:Yas σ ρ G w s (.slice (some c) n cap)){sz:Nat}{rs:List (List D)}(hx:s.x.val ρ=.rows sz rs){i:aL}{k:IntKind}{iv:Int}(hi:i.val ρ=.int k iv)
  {row:List D} (hr:rs[iv.toNat]?=some row) {off:Nat} {d:D} (hd:row[off]?=some d) (ck:CK) (hk:Jb0 ck=true->d.isSc=true) {y:aL} (hy:y.val ρ=d) :
  ∃ v,w.cell? (c.add (iv.toNat*sz+off))=some v/\aB σ ρ G w (jS s i sz off ck y) v:=by
 have im:=h.rd;rw[hx]at im;obtain⟨A,c',n',iS,vs,e1,e2,e3,e4,e5,e6,e7⟩:=im.inv;obtain⟨rfl,rfl,rfl⟩:some c=A/\n=n'/\cap=iS:=by injection e1 with a b c;exact⟨a,b,c⟩
 have hlt:iv.toNat<rs.length:=by
  rcases Zbz iv.toNat rs.length with h|h
  ·exact h
  ·rw[Ac0 h]at hr;cases hr
 have hc:c=c':=by
  rcases e4 with e4|e4
  ·omega
  ·exact Option.some.inj e4
 subst hc;obtain⟨-,bd⟩:=e6 _ _ hr _ _ hd;have cq:=e7 _ _ hr _ _ hd;refine⟨_,bd,?_⟩
 cases ck with
 | sc z =>
  simp only[jS,aB];rw[hy];exact cq.sc_inv (hk rfl)
 |pn=>simpa only[jS,aB] using cq.one
 |ot=>simpa only[jS,aB] using cq.one
 | sl z =>
  have hex:∀ z∈s.deps,jG σ z.1 z.2:=fun z hz=>by
   obtain⟨m,hl⟩:=h.live z hz;exact hl.valid.known
  have a4m:aB σ ρ G w (.sn s.deps .no false y) (vs iv.toNat off):=by
   simp only[aB];exact⟨⟨cq.one,hex⟩,fun _=>⟨by rw[hy];exact cq,by simp,trivial⟩⟩
  simp only[jS];have a7:=h.own;unfold vH at a7;split
  ·rename_i r k' m p ho
   rw[ho]at a7;obtain⟨h1,h2,h3,h4,h5⟩:=a7;rw[hx]at h4
   cases hm:m-p.length with
   | zero =>
    have:Nat.ble (p.length+2) m=false:=by
     cases hb:Nat.ble (p.length+2) m with
     |false=>rfl
     |true=>simp only[Acr]at hb;omega
    rw[this,cond_false];rw[hm]at h4;obtain⟨A',c'',n'',yu,tP,e1',e2',e3',sy,e5',e6',e7'⟩:=h4.zero.inv;obtain⟨rfl,rfl,rfl⟩:some c=A'/\n=n''/\cap=yu:=by injection e1' with a b c;exact⟨a,b,c⟩
    have hc:c=c'':=by
     rcases sy with sy|sy
     ·omega
     ·exact Option.some.inj sy
    subst hc;obtain⟨-,iu⟩:=e6' _ _ hr _ _ hd;rw[bd]at iu;simp only[aB];refine⟨⟨cq.one,by simp⟩,fun _=>⟨?_,by simp,trivial⟩⟩;rw[hy,Option.some.inj iu];exact (e7' _ _ hr _ _ hd).mono fun b hb=>⟨.inl hb,rfl⟩
   | succ m' =>
    rw[hm]at h4
    cases h4 with
    |sc h=>cases h
    | sl A' c'' n'' yu _ _ tP e2' e3' sy e5' e6' e7' e8' =>
     have hc:c=c'':=by
      rcases sy with sy|⟨sy,-⟩
      ·exact Option.some.inj sy
      ·cases sy
     subst hc;obtain⟨-,nc,-⟩:=e6' rfl;have iu:=e7' _ _ hr _ _ hd;have tu:=e8' _ _ hr _ _ hd;rw[bd]at iu;rw[<- Option.some.inj iu]at tu
     cases hb:Nat.ble (p.length+2) m with
     | false =>
      rw[cond_false]
      have:m'=0:=by
       have:¬ p.length+2<=m:=by rw[<- Acr,hb];simp
       omega
      subst this;simp only[aB];refine⟨⟨cq.one,by simp⟩,fun _=>⟨?_,by simp,trivial⟩⟩;rw[hy];exact tu.zero.mono fun b hb=>⟨.inl hb,rfl⟩
     | true =>
      rw[cond_true];simp only[Acr]at hb
      have hpv:bD ρ (p++[(i,sz,off)])=bD ρ p++[iv.toNat*sz+off]:=by
       simp[bD,lD,hi]
      simp only[aB];refine⟨⟨cq.one,fun z hz=>?_⟩,fun _=>⟨?_,by simp,?_⟩⟩
      ·simp only[Zbp]at hz
       subst hz;exact h2.valid.known
      ·rw[hy]
       rw[h1]at cq;exact cq
      ·simp only[Dam]
       intro r2 k2 m2 e2 jh;obtain⟨rfl,rfl⟩:r=r2/\k'=k2:=by simpa using e2
       obtain⟨x1,ex1⟩:=h2;obtain⟨x2,vd⟩:=jh;rw[ex1]at vd;obtain rfl:m=m2:=by injection vd with vd;injection vd
       refine⟨by simp;omega,?_,?_⟩
       ·rw[hpv,hy,show m-(p++[(i,sz,off)]).length=m' by simp;omega]
        exact tu
       ·rw[hpv]
        exact h5.snoc _ _ _ (by simpa using nc) bd
  ·exact a4m
theorem Ial:∀ {ks:List Bool} {ds:List D},Eac ks ds=true->∀ (j:Nat) (d:D),ks[j]?=some true->ds[j]?=some d->d.isSc=true
 |[],ds,_,j,d,hk,_=>by simp at hk
 |k::ks,[],h,j,d,hk,hd=>by simp at hd
 | k :: ks, e :: ds, h, j, d, hk, hd => by
  simp only[Eac,Zbd,Acp,Zb3]at h
  cases j with
  | zero =>
   simp only[Zbl,Option.some.injEq]at hk hd;subst hk hd;simpa using h.1
  |succ j=>exact Ial h.2 j d (by simpa using hk) (by simpa using hd)
theorem Da4 {t:TypeId}{b:Addr}{v:Value}(h:(loadVar t b).run P w=.ok v w):(Instr.loadAt t (.pointer (some b))).run P w=.ok v w:=by
 simp only[Instr.loadAt,Instr.sureAddr,Sem.run_bind,Sem.run_pure,Result.andThen_ok,h]
theorem xO (s:SlR)(i:aL)(sz:Nat):∀ (cs:List CK) (off y j:Nat) (l:aR),(eT s i sz off cs y)[j]?=some l->∃ c,cs[j]?=some c/\l=jS s i sz (off+j) c (.v (y+j))
 |[],off,y,j,l,h=>by simp[eT]at h
 | c :: cs, off, y, j, l, h => by
  simp only[eT]at h
  cases j with
  | zero =>
   simp only[Zbl,Option.some.injEq]at h;exact⟨c,rfl,h.symm⟩
  | succ j =>
   obtain⟨c',h1,h2⟩:=xO s i sz cs (off+1) (y+1) j l (by simpa using h);exact⟨c',by simpa using h1,by rw[h2];congr 1<;>first|omega|(congr 1;omega)⟩
theorem xN (s:SlR)(i:aL)(sz:Nat):∀ (cs:List CK) (off y:Nat),(eT s i sz off cs y).length=cs.length
 |[],_,_=>rfl
 |c::cs,off,y=>by simp[eT,xN s i sz cs (off+1) (y+1)]
theorem Daz {agg:Bool}{ls:List aR}{sv:SV}(h:Uar agg ls=some sv){vs:List Value}(hl:vs.length=ls.length):∃ v,if agg=true then v=.agg vs.toArray else vs=[v]:=by
 cases agg with
 |true=>exact⟨_,rfl⟩
 | false =>
  simp only[Uar,cond_false]at h;split at h
  ·match vs,hl with
   |[v],_=>exact⟨v,rfl⟩
  ·cases h
theorem Zam {sz off:Nat}{ks:List Bool}{x i:D}{ds:List D}(h:(aU.row sz off ks).run [x,i]=some ds) :
  ∃ rs k iv row,x=.rows sz rs/\i=.int k iv/\0<=iv/\rs[iv.toNat]?=some row/\off+ks.length<=row.length/\Eac ks (row.drop off)=true/\ds=(row.drop off).take ks.length:=by
 cases x<;>cases i<;>simp only[aU.run]at h<;>first|cases h|skip
 rename_i pg rs k iv;split at h
 ·rename_i h1
  obtain⟨rfl,h1⟩:=h1;split at h
  ·rename_i row hr
   split at h
   ·rename_i h2
    simp only[Option.some.injEq]at h;exact⟨rs,k,iv,row,rfl,rfl,h1,hr,h2.1,h2.2,h.symm⟩
   ·cases h
  ·cases h
 ·cases h
theorem Wa3 (hR:R E.ntmps F σ ρ a w G)(hd:fG E.ntmps o)(hti:vN P E.ti){nv:Nat}{t:TypeId}{x:Operand}(ho:o.op=.load t x){ti:TI}
  (hi:E.ti t=some ti) {p:aR} (hp:gOn ρ g=true->aB σ ρ G w p (a.eval x)) {res:bP}
  (h:(Ual nv o g ti p).eval σ=some res) (hs:aN cf ρ g nv res.lets):gV P E F σ ρ a w g o Q res.upd:=by
 obtain⟨info,u,f⟩:=aX (hti.ok _ _ hi)
 have hex:∀ {v:Value},(Instr.loadAt t (a.eval x)).run P w=.ok v w->(execOp a.eval o).run P w=.ok (.value v) w:=by
  intro v hv;unfold execOp;simp only[ho];exact fQ hv
 unfold Ual at h;split at h
 ·rename_i b off
  simp only[aA,aT,Zbj]at h;split at h
  ·rename_i ro bs hk
   simp only[aA,Zbc,aK]at h;obtain⟨_,gb,h⟩:=h;split at gb
   ·rename_i hle
    simp only[Acr]at hle;split at h
    ·rename_i sv gE
     refine yG hR hd h hs fun hg=>?_
     have hl:=hp hg;simp only[aB]at hl;obtain⟨h1,h2,h3⟩:=hR.box hk
     obtain⟨vs,h4,h5⟩:=lS (σ:=σ) (ρ:=ρ) (G:=G) (w:=w) ((G.bx b).add off) ((bs.drop off).take ti.size) 0 fun j l hj=>by
      rw[Acs]at hj;split at hj
      ·rw[Acg]at hj
       obtain⟨v,h6,-,h7⟩:=h3 _ _ hj;refine⟨v,?_,h7⟩;rw[Aca,add_add];exact h6
      ·cases hj
     have hlen:vs.length=ti.size:=by
      rw[h4.len];simp;omega
     obtain⟨v,hv⟩:=Daz gE h4.len;refine⟨v,tF gE h4 hv,hex ?_⟩;rw[hl.1];exact Da4 (kN f _ vs hlen (fun j v hj=>by simpa using h5 j v hj) hv)
    ·cases h
   ·cases gb
  ·cases h
 ·rename_i l sz i off
  simp only[aA,Zbc]at h;obtain⟨s,hL,h⟩:=h
  have main:∀ (ks:List Bool) (ds:List D),(∀ (j:Nat) (c:CK),ti.cells[j]?=some c->Jb0 c=true->ks[j]?=some true)->ks.length=ti.cells.length->gOn ρ g=true ->
    (aU.row sz off ks).run [s.x.val ρ,i.val ρ]=some ds->(∀ j d,ds[j]?=some d->(aL.v (nv+j)).val ρ=d) ->
    ∃ vs,aG σ ρ G w (eT s i sz off ti.cells nv) vs/\vs.length=ti.size/\∃ b,a.eval x=.pointer (some b)/\∀ j v,vs[j]?=some v->w.cell? (b.add j)=some v:=by
   intro ks ds hks qz hg bj je;have hl:=hp hg;simp only[aB]at hl;obtain⟨b,n,c,k,iv,h1,h2,h3,h4,h5⟩:=hl;have a4q:=dX hR hL h1;obtain⟨rs,k',iv',row,e1,e2,e3,e4,e5,e6,rfl⟩:=Zam bj;rw[h2]at e2;obtain⟨rfl,rfl⟩:k=k'/\iv=iv':=by injection e2 with a b;exact⟨a,b⟩
   obtain⟨vs,h6,h7⟩:=lS (σ:=σ) (ρ:=ρ) (G:=G) (w:=w) (b.add (iv.toNat*sz+off)) (eT s i sz off ti.cells nv) 0 fun j l' hj=>by
    obtain⟨c',gj,rfl⟩:=xO _ _ _ _ _ _ _ _ hj;have kz:j<ti.cells.length:=(List.getElem?_eq_some_iff.1 gj).1;have ie:row[off+j]?=some row[off+j]:=Zbf (by omega)
    obtain⟨v,uw,qT⟩:=Cbh a4q e1 h2 e4 (off:=off+j) (d:=row[off+j]) ie c' (fun kc=>Ial e6 j _ (hks j c' gj kc) (by rw[Acg];exact ie)) (y:=.v (nv+j))
     (je j _ (by rw[Acs,if_pos (by omega),Acg];exact ie))
    refine⟨v,?_,qT⟩;rw[add_add,Aca,Zb0];exact uw
   exact⟨vs,h6,by rw[h6.len,xN,f.len],_,h5,fun j v hj=>by simpa using h7 j v hj⟩
  split at h
  ·rename_i x' gE
   have qj:x'=.v nv/\ti.agg=false/\∃ z,ti.cells=[.sc z]:=by
    unfold Uar at gE
    cases mi:ti.agg with
    |true=>rw[mi]at gE;simp at gE
    | false =>
     rw[mi]at gE;simp only[cond_false]at gE
     cases hc:ti.cells with
     |nil=>rw[hc]at gE;simp[eT]at gE
     | cons c cs =>
      cases cs with
      | nil =>
       rw[hc]at gE;simp only[eT,Option.some.injEq,SV.one.injEq]at gE
       cases c with
       |sc z=>simp only[jS,aR.sc.injEq]at gE;exact⟨gE.symm,rfl,z,rfl⟩
       | sl z =>
        simp only[jS]at gE;split at gE
        ·cases hb:Nat.ble _ _<;>(rw[hb]at gE;cases gE)
        ·cases gE
       |pn=>simp[jS]at gE
       |ot=>simp[jS]at gE
      |cons c' oS=>rw[hc]at gE;simp[eT]at gE
   obtain⟨rfl,mi,z,hcs⟩:=qj
   have aE:aN cf ρ g nv [.prim (.row sz off [true]) [s.x,i] 1]:=by
    simp only[tV,aF,Option.some.injEq]at h;subst h;exact hs
   refine dK hR hd h hs fun hg d hpr=>?_
   obtain⟨d',h1,h2⟩:=fV aE hg;simp only[Zb5,Acb]at hpr h1
   obtain⟨vs,h3,h4,b,h5,h6⟩:=main [true] [d'] (fun j c hc _=>by
    rw[hcs]at hc
    cases j with
    |zero=>rfl
    | succ j => simp at hc) (by rw [hcs]; rfl) hg h1 (fun j d hj => by
     cases j with
     |zero=>simp only[Zbl,Option.some.injEq]at hj;rw[<- hj];exact h2
     |succ j=>simp at hj)
   obtain⟨v,hv⟩:=Daz gE h3.len;have h7:=tF gE h3 hv;simp only[cB,aB]at h7;refine⟨v,?_,hex ?_⟩
   ·rw[h2]at h7
    rw[h1]at hpr;simp only[Option.some.injEq,List.cons.injEq,and_true]at hpr;exact hpr▸h7
   ·rw[h5]
    exact Da4 (kN f b vs h4 h6 hv)
  ·rename_i sv _ gE
   refine dQ hR hd h hs fun hg aE=>?_
   obtain⟨ds,h1,h2,h3⟩:=step1 aE hg;simp only[Zb5,Acb]at h1;obtain⟨vs,h4,h5,b,h6,h7⟩:=main _ ds (fun j c hc kc=>by rw[Zb2,hc];simp[kc]) (by simp) hg h1 h3;obtain⟨v,hv⟩:=Daz gE h4.len;refine⟨v,tF gE h4 hv,hex ?_⟩;rw[h6];exact Da4 (kN f b vs h5 h7 hv)
  ·cases h
 ·cases h
end
section
variable {P:Program} {E:Env} {F:bH} {σ:Nat->Option aS} {ρ:List D} {a:Act} {w w':World} {G:Gh} {g:Option (aL×Bool)} {o:Oper} {cf:Nat->List D->Option (List D)} {Q:Exit->Act->World->Prop} {next:Act->World->Prop}
theorem Jat:∀ {rs:List (List D)} {l:List UInt8},bytesOf rs=some l->∃ ns:List Int,rs=ns.map (fun n=>[D.int .u8 n])/\l=ns.map fun n=>UInt8.ofNat n.toNat
 | [], l, h => by
  simp only[bytesOf,Option.some.injEq]at h;exact⟨[],rfl,h.symm⟩
 | r :: rs, l, h => by
  unfold bytesOf at h;split at h
  ·rename_i hh;cases hh
  ·rename_i n r' hh
   obtain⟨rfl,rfl⟩:=List.cons.inj hh;simp only[Zbo]at h;obtain⟨l',h1,rfl⟩:=h;obtain⟨ns,rfl,rfl⟩:=Jat h1;exact⟨n::ns,rfl,rfl⟩
  ·cases h
theorem Wa5 (hR:R E.ntmps F σ ρ a w G)(hd:fG E.ntmps o)(hti:vN P E.ti){nv:Nat}{src dst:TypeId}{x:Operand}(ho:o.op=.convert src dst x){res:bP}{s d ei:TI}{e:Nat}
  (oB:E.ti src=some s) (he:s.elem=some e) (vo:E.ti e=some ei) (hk:Sbk ei.ik=true) (fy:E.ti dst=some d) (hdS:d.isStr=true)
  {l:aR} {r:SlR} (h1:(rdL E g src x).eval σ=some l) (h2:(yJ l).eval σ=some r)
  (h:(tV o g nv .bstr [r.x]).eval σ=some res) (hs:aN cf ρ g nv res.lets):gV P E F σ ρ a w g o Q res.upd:=by
 refine dK hR hd h hs fun hg z hp=>?_
 obtain⟨i1,u1,f1⟩:=aX (hti.ok _ _ oB);obtain⟨i2,u2,f2⟩:=aX (hti.ok _ _ fy);obtain⟨i3,u3,f3⟩:=aX (hti.ok _ _ vo);obtain rfl:=qN f1 he;obtain rfl:=Da0 f2 hdS
 have e3:u3=.int .u8:=by
  unfold Sbk at hk;split at hk
  ·rename_i k kb
   simp only[Rbt,decide_eq_true_eq]at hk;have:=f3.ik.symm.trans kb;unfold Rbr at this;split at this
   ·rw[Option.some.inj this,hk]
   ·cases this
  ·cases hk
 subst e3;have hl:=(dX hR h2 (fJ hR hg h1)).rd;simp only[Zb5,Acb]at hp;generalize r.x.val ρ=xv at hp hl;cases xv<;>simp only[aU.run]at hp<;>first|cases hp|skip
 rename_i sz rs;simp only[Zbo,List.cons.injEq,and_true]at hp;obtain⟨bs,hb,rfl⟩:=hp;obtain⟨ns,rfl,rfl⟩:=Jat hb;obtain⟨A,b,n,c,vs,e1,e2,e3,e4,e5,e6,e7⟩:=hl.inv;refine⟨_,.str _,?_⟩;unfold execOp;simp only[ho];refine fQ ?_;rw[e1,run_convert_bytes_string w src dst e A n c f1.und f3.und f2.und]
 cases A with
 | none =>
  have:n=0:=by
   rcases e4 with e4|e4
   ·exact e4
   ·cases e4
  subst this;simp only[Zbt]at e2;obtain rfl:=Acu e2;simp[Conv.bytesToString];rfl
 | some b' =>
  have tp:(loadCells b' n).run P w=.ok (ns.map (Value.int .u8)).toArray w:=by
   simp only[Zbt]at e2
   have:=run_loadCells_list (P:=P) w b' (ns.map (Value.int .u8)) (fun j v hj=>by
    simp only[Zb2,Zbo]at hj;obtain⟨m,hm,rfl⟩:=hj;have hr:(ns.map fun n=>[D.int .u8 n])[j]?=some [D.int .u8 m]:=by rw[Zb2,hm];rfl
    have h9:=e6 j _ hr 0 _ rfl;have cL:=(e7 j _ hr 0 _ rfl).sc_inv rfl
    have dw:sz=1:=by
     have:=e5 _ (Zbv hr);simpa using this.symm
    have il:j<ns.length:=(List.getElem?_eq_some_iff.1 hm).1
    have di:b'=b:=by
     rcases e4 with e4|e4
     ·omega
     ·exact Option.some.inj e4
    subst di dw;rw[cL.int_inv]at h9;simpa using h9.2)
   simpa[e2] using this
  rw[run_bytesToString w b' n c ns tp,foldl_push_bytes];simp[ByteArray.empty,ByteArray.emptyWithCapacity];rfl
theorem Pam (hR:R E.ntmps F σ ρ a w G)(hd:fG E.ntmps o)(hti:vN P E.ti){nv:Nat}{src dst:TypeId}{x:Operand}(ho:o.op=.convert src dst x){res:bP}{s d:TI}
  (oB:E.ti src=some s) (hsS:s.isStr=true) (fy:E.ti dst=some d) (hdS:d.isStr=true) {x':aL} (h1:(rdA E g src x).eval σ=some x')
  (h:(tV o g nv .sid [x']).eval σ=some res) (hs:aN cf ρ g nv res.lets):gV P E F σ ρ a w g o Q res.upd:=by
 refine dK hR hd h hs fun hg z hp=>?_
 obtain⟨i1,u1,f1⟩:=aX (hti.ok _ _ oB);obtain⟨i2,u2,f2⟩:=aX (hti.ok _ _ fy);obtain rfl:=Da0 f1 hsS;obtain rfl:=Da0 f2 hdS;have hl:=jK hR hg h1;simp only[Zb5,Acb]at hp;generalize x'.val ρ=xv at hp hl;cases xv<;>simp only[aU.run]at hp<;>first|cases hp|skip
 refine⟨_,.str _,?_⟩;unfold execOp;simp only[ho,hl.str_inv];refine fQ ?_;simp only[convert,Sem.run_bind,run_underlying f1.und,run_underlying f2.und,Result.andThen_ok];rfl
theorem Lad {is:Bool}{len cap:Nat}{lo hi:Option Value}{kl kh:IntKind}{l h:Int}(nz:(lo=none/\l=0)\/lo=some (.int kl l))(sj:(hi=none/\h=len)\/(hi=some (.int kh h)/\h<=cap))(h0:0<=l)(h1:l<=h) :
  (Instr.sliceBounds is len cap lo hi none).run P w=.ok (l.toNat,h.toNat,cap) w:=by
 rcases sj with ⟨rfl,rfl⟩|⟨rfl,hc⟩<;>rcases nz with ⟨rfl,rfl⟩|rfl
 ·simp[Instr.sliceBounds]
 ·have e2:0<=l/\l<=(len:Int):=⟨h0,by omega⟩
  simp[Instr.sliceBounds,Instr.sliceBound,asIntOf,e2]
 ·have e1:0<=h/\h<=(cap:Int):=⟨by omega,hc⟩
  simp[Instr.sliceBounds,Instr.sliceBound,asIntOf,e1]
 ·have e1:0<=h/\h<=(cap:Int):=⟨by omega,hc⟩
  have e2:0<=l/\l<=(h.toNat:Int):=⟨h0,by omega⟩;have e3:0<=l/\l<=max h 0:=⟨h0,by omega⟩;simp[Instr.sliceBounds,Instr.sliceBound,asIntOf,e1,e2,e3]
theorem Wak {ei:TI}{lo fl:Bool}{s:SlR}{p:Pth}(h:Kav ei lo s=(p,fl)):(p=.no) \/
  (p=.view/\∃ r k m q,s.own=some (r,k,m,q)/\(q=.path []\/q=.view)/\(m=1\/lo=false\/fl=true)):=by
 unfold Kav at h
 have one:∀ m:Nat,(bif Nat.beq m 1||!lo then (Pth.view,false) else bif Oas ei.cells then (Pth.view,true) else (Pth.no,false))=(p,fl)->p=.no\/(p=.view/\(m=1\/lo=false\/fl=true)):=by
  intro m h
  cases hb:(Nat.beq m 1||!lo) with
  | true =>
   rw[hb]at h;simp only[cond_true,Prod.mk.injEq]at h;simp only[Acp,Zb8,Zb3]at hb;exact .inr ⟨h.1.symm,hb.imp id .inl⟩
  | false =>
   rw[hb]at h
   cases hn:Oas ei.cells with
   | true =>
    rw[hn]at h;simp only[cond_false,cond_true,Prod.mk.injEq]at h;exact .inr ⟨h.1.symm,.inr (.inr h.2.symm)⟩
   | false =>
    rw[hn]at h;simp only[cond_false,Prod.mk.injEq]at h;exact .inl h.1.symm
 split at h
 ·rename_i r k m ho
  exact (one _ h).imp id fun ⟨h1,h2⟩=>⟨h1,_,_,_,_,ho,.inl rfl,h2⟩
 ·rename_i r k m ho
  exact (one _ h).imp id fun ⟨h1,h2⟩=>⟨h1,_,_,_,_,ho,.inr rfl,h2⟩
 ·simp only[Prod.mk.injEq]at h
  exact .inl h.1.symm
theorem Sal {sz:Nat}{fl:Bool}{x i j:D}{ds:List D}(h:(aU.sub sz fl).run [x,i,j]=some ds) :
  ∃ rs ki kj lo hi,x=.rows sz rs/\i=.int ki lo/\j=.int kj hi/\(fl=true->∀ r∈rs,∀ d∈r,d.isSc=true)/\0<=lo/\lo<=hi/\hi<=rs.length/\ds=[.rows sz ((rs.take hi.toNat).drop lo.toNat)]:=by
 cases x<;>cases i<;>cases j<;>simp only[aU.run]at h<;>first|cases h|skip
 split at h
 ·rename_i h1
  obtain⟨rfl,h1,h2,h3,h4⟩:=h1;simp only[Option.some.injEq]at h;refine⟨_,_,_,_,_,rfl,rfl,rfl,fun hf=>?_,h2,h3,h4,h.symm⟩;rw[hf]at h1;simp only[Bool.not_true,Bool.false_or,Zb6]at h1;exact fun r hr d hd=>h1 r hr d hd
 ·cases h
theorem Maz {rs:List (List D)}{lo hi i:Nat}{r:List D}(h:((rs.take hi).drop lo)[i]?=some r):rs[lo+i]?=some r/\lo+i<hi:=by
 rw[Acg,Acs]at h;split at h
 ·rename_i hl;exact⟨h,hl⟩
 ·cases h
theorem Rd.part {ok:Nat->Prop}{A:Option Addr}{n c sz:Nat}{rs:List (List D)}(h:Rd ok w (.slice A n c) (.rows sz rs)){lo hi:Nat}(h1:lo<=hi)(h2:hi<=n) :
  Rd ok w (.slice (if c=lo then A else A.map (·.add (lo*sz))) (hi-lo) (c-lo)) (.rows sz ((rs.take hi).drop lo)):=by
 obtain⟨A',b,n',c',vs,e1,e2,e3,e4,e5,e6,e7⟩:=h.inv;obtain⟨rfl,rfl,rfl⟩:A=A'/\n=n'/\c=c':=by injection e1 with a b c;exact⟨a,b,c⟩
 refine .rows _ (b.add (lo*sz)) _ _ sz _ (fun i j=>vs (lo+i) j) (by simp;omega) (by omega) ?_ (fun r hr=>?_) (fun i r eS j d hj=>?_) (fun i r eS j d hj=>?_)
 ·by_cases hz:hi-lo=0
  ·exact .inl hz
  ·refine .inr ?_
   have hA:A=some b:=e4.resolve_left (by omega);rw[if_neg (by omega),hA];rfl
 ·exact e5 r (Ac9 (Bcs hr))
 ·obtain⟨h3,h4⟩:=Maz eS
  obtain⟨h5,h6⟩:=e6 _ _ h3 _ _ hj;refine⟨by rw[add_block];exact h5,?_⟩;rw[add_add,show lo*sz+(i*sz+j)=(lo+i)*sz+j by rw[Nat.add_mul,Zb0]];exact h6
 ·obtain⟨h3,h4⟩:=Maz eS
  exact e7 _ _ h3 _ _ hj
theorem Rp.sc_inv {own:Nat->Ow}{r m:Nat}{p:List Nat}{v:Value}{d:D}(h:Rp own w r p m v d)(hd:d.isSc=true):Sc v d:=by
 cases h with
 |sc h=>exact h
 |hole=>simp[D.isSc]at hd
 |fz h=>exact h.sc_inv hd
 |sl=>simp[D.isSc]at hd
theorem Rp.part {own:Nat->Ow}{r m:Nat}{p:List Nat}{A:Option Addr}{n c sz:Nat}{rs:List (List D)}(h:Rp own w r p m (.slice A n c) (.rows sz rs)){lo hi:Nat}(h1:lo<=hi)(h2:hi<=n)
  (hc:m=1\/lo=0\/∀ r∈rs,∀ d∈r,d.isSc=true) :
  Rp own w r p m (.slice (if c=lo then A else A.map (·.add (lo*sz))) (hi-lo) (c-lo)) (.rows sz ((rs.take hi).drop lo)):=by
 generalize hv:Value.slice A n c=v at h;generalize hx:D.rows sz rs=x at h
 cases h with
 |sc h=>subst hx;cases h
 |hole=>cases hx
 |fz h=>subst hv hx;exact .fz (h.part h1 h2)
 | sl A' b n' c' pg rs' vs hn gj hA dw a7 bd cq =>
  obtain⟨rfl,rfl,rfl⟩:A=A'/\n=n'/\c=c':=by injection hv with a b c;exact⟨a,b,c⟩
  obtain⟨rfl,rfl⟩:sz=pg/\rs=rs':=by injection hx with a b;exact⟨a,b⟩
  rename_i m';refine .sl _ (if c=lo then b else b.add (lo*sz)) _ _ sz _ (fun i j=>vs (lo+i) j) (by simp;omega) (by omega) ?_ (fun r hr=>?_) (fun e=>?_) (fun i r' eS j d hj=>?_) (fun i r' eS j d hj=>?_)
  ·rcases hA with hA|⟨hA,h0⟩
   ·refine .inl ?_
    rw[hA];by_cases h:c=lo
    ·rw[if_pos h,if_pos h]
    ·rw[if_neg h,if_neg h];rfl
   ·refine .inr ⟨?_,by omega⟩
    rw[hA];split<;>rfl
  ·exact dw r (Ac9 (Bcs hr))
  ·have yo:A=some b:=by
    rcases hA with hA|⟨hA,h0⟩
    ·exact hA
    ·rw[hA]at e
     split at e<;>cases e
   obtain⟨h3,h4,h5⟩:=a7 yo;by_cases h:c=lo
   ·rw[if_pos h]
    exact⟨h3,h4,fun k hk=>by rw[h,Nat.sub_self,Nat.zero_mul]at hk;omega⟩
   ·rw[if_neg h]
    refine⟨?_,by rw[add_block];exact h4,fun k hk=>?_⟩
    ·unfold Addr.add;split
     ·exact h3
     ·rfl
    ·rw[add_add]
     refine h5 _ ?_;rw[Nat.sub_mul]at hk;omega
  ·obtain⟨h3,h4⟩:=Maz eS
   rw[if_neg (by omega),add_add,show lo*sz+(i*sz+j)=(lo+i)*sz+j by rw[Nat.add_mul,Zb0]];exact bd _ _ h3 _ _ hj
  ·obtain⟨h3,h4⟩:=Maz eS
   have:=cq _ _ h3 _ _ hj
   rcases hc with hc|hc|hc
   ·obtain rfl:m'=0:=by omega
    exact .fz this.zero
   ·subst hc
    simpa using this
   ·exact .sc (this.sc_inv (hc r' (Zbv h3) d (Zbv hj)))
theorem vY {t e:TypeId}{x:Operand}{lo hi:Option Operand}(ho:o.op=.slice t x lo hi none)(hu:P.underlying t=some (.slice e)){size:Nat}(dw:(sizeOf e).run P w=.ok size w)
  {A:Option Addr} {n c:Nat} (hx:a.eval x=.slice A n c) {kl kh:IntKind} {l h:Int} (nz:(lo=none/\l=0)\/lo.map a.eval=some (.int kl l)) (sj:(hi=none/\h=n)\/(hi.map a.eval=some (.int kh h)/\h<=c)) (h0:0<=l) (h1:l<=h) :
  (execOp a.eval o).run P w=.ok (.value (.slice (if c=l.toNat then A else A.map (·.add (l.toNat*size))) (h.toNat-l.toNat) (c-l.toNat))) w:=by
 unfold execOp;simp only[ho];refine fQ ?_;have hb:=Lad (P:=P) (w:=w) (is:=true) (len:=n) (cap:=c) (lo:=lo.map a.eval) (hi:=hi.map a.eval) (kl:=kl) (kh:=kh) (l:=l) (h:=h) (nz.imp (fun ⟨h1,h2⟩=>⟨by rw[h1];rfl,h2⟩) id) (sj.imp (fun ⟨h1,h2⟩=>⟨by rw[h1];rfl,h2⟩) id) h0 h1;simp only[Instr.sliceAt,Instr.slice,Sem.run_bind,run_underlying hu,Result.andThen_ok,hx,Option.map_none,hb,dw,Sem.run_pure]
end
section
variable {P:Program} {E:Env} {F:bH} {σ:Nat->Option aS} {ρ:List D} {a:Act} {w w':World} {G:Gh} {g:Option (aL×Bool)} {o:Oper} {cf:Nat->List D->Option (List D)} {Q:Exit->Act->World->Prop} {next:Act->World->Prop}
theorem wO {g:Option (aL×Bool)}(h:noG g=true):g=none:=by
 cases g with
 |none=>rfl
 |some _=>cases h
theorem Cac {p:aU}{xs:List aL}{nv:Nat}(h:Waf cf ρ g nv (.prim p xs 1))(hg:gOn ρ g=true) :
  ∃ d,p.run (xs.map (·.val ρ))=some [d]/\(aL.v nv).val ρ=d:=fV (cf:=cf) (nv:=nv) ⟨h,trivial⟩ hg
theorem Baw {t:TypeId}{x:Operand}{lo hi:Option Operand}(ho:o.op=.slice t x lo hi none)(hu:P.underlying t=some .string)
  {s:List UInt8} (hx:a.eval x=.string ⟨s.toArray⟩) {kl kh:IntKind} {l h:Int} (nz:(lo=none/\l=0)\/lo.map a.eval=some (.int kl l)) (sj:(hi=none/\h=s.length)\/(hi.map a.eval=some (.int kh h)/\h<=s.length)) (h0:0<=l) (h1:l<=h) :
  (execOp a.eval o).run P w=.ok (.value (.string ⟨((s.take h.toNat).drop l.toNat).toArray⟩)) w:=by
 unfold execOp;simp only[ho];refine fQ ?_;have hb:=Lad (P:=P) (w:=w) (is:=false) (len:=s.length) (cap:=s.length) (lo:=lo.map a.eval) (hi:=hi.map a.eval) (kl:=kl) (kh:=kh) (l:=l) (h:=h) (nz.imp (fun ⟨h1,h2⟩=>⟨by rw[h1];rfl,h2⟩) id) (sj.imp (fun ⟨h1,h2⟩=>⟨by rw[h1];rfl,h2⟩) id) h0 h1;have hlen:(⟨s.toArray⟩:ByteArray).size=s.length:=rfl;simp only[Instr.sliceAt,Instr.slice,Sem.run_bind,run_underlying hu,Result.andThen_ok,hx,Option.map_none,Option.isSome_none,Zbg,if_false,hlen,hb,Sem.run_pure];congr 2;apply ByteArray.ext;rw[ByteArray.data_extract];apply Cc5;simp[List.drop_take,List.extract]
theorem Uat {x i j:D}{ds:List D}(h:aU.ssub.run [x,i,j]=some ds) :
  ∃ s ki kj lo hi,x=.str s/\i=.int ki lo/\j=.int kj hi/\0<=lo/\lo<=hi/\hi<=s.length/\ds=[.str ((s.take hi.toNat).drop lo.toNat)]:=by
 cases x<;>cases i<;>cases j<;>simp only[aU.run]at h<;>first|cases h|skip
 split at h
 ·rename_i h1
  simp only[Option.some.injEq]at h;exact⟨_,_,_,_,_,rfl,rfl,rfl,h1.1,h1.2.1,h1.2.2,h.symm⟩
 ·cases h
theorem Ua8 {lo:Bool}{s:SlR}{ei:TI}{p:Pth}{fl:Bool}(hvw:Kav ei lo s=(p,fl)){A:Option Addr}{n c sz:Nat}(hL:Yas σ ρ G w s (.slice A n c)){rs:List (List D)}(hx:s.x.val ρ=.rows sz rs)
  {l h:Nat} (h1:l<=h) (h2:h<=n) (nz:lo=false->l=0) (fX:fl=true->∀ r∈rs,∀ d∈r,d.isSc=true) {y:aL} (hy:y.val ρ=.rows sz ((rs.take h).drop l)) :
  aB σ ρ G w (.sn s.deps p false y) (.slice (if c=l then A else A.map (·.add (l*sz))) (h-l) (c-l)):=by
 simp only[aB];refine⟨⟨rfl,fun z hz=>?_⟩,fun _=>⟨?_,by simp,?_⟩⟩
 ·obtain⟨m,hl⟩:=hL.live z hz
  exact hl.valid.known
 ·rw[hy]
  exact Rd.part (hx▸hL.rd) h1 h2
 ·rcases Wak hvw with rfl|⟨rfl,r,k,m,q,ho,hq,hc⟩
  ·trivial
  ·intro r2 k2 m2 e2 jh
   have a7:=hL.own;unfold vH at a7;rw[ho]at a7;obtain⟨h3,⟨x1,h4⟩,h5⟩:=a7;rw[h3]at e2;obtain⟨rfl,rfl⟩:r=r2/\k=k2:=by simpa using e2
   obtain⟨x2,vd⟩:=jh;rw[h4]at vd;obtain rfl:m=m2:=by injection vd with vd;injection vd
   have fm:Rp G.own w r [] m (.slice A n c) (.rows sz rs):=by
    rw[<- hx]
    rcases hq with rfl|rfl
    ·simpa[bD] using h5.2.1
    ·exact h5
   rw[hy];refine fm.part h1 h2 ?_
   rcases hc with hc|hc|hc
   ·exact .inl hc
   ·exact .inr (.inl (nz hc))
   ·exact .inr (.inr (fX hc))
theorem Zay {lo:Bool}{s:SlR}{ei:TI}{p:Pth}{fl:Bool}(hvw:Kav ei lo s=(p,fl)){A:Option Addr}{n c sz:Nat}(hL:Yas σ ρ G w s (.slice A n c)){rs:List (List D)}(hx:s.x.val ρ=.rows sz rs)
  {l:Nat} (h1:l<=n) (nz:lo=false->l=0) (fX:fl=true->∀ r∈rs,∀ d∈r,d.isSc=true) {y:aL} (hy:y.val ρ=.rows sz ((rs.take n).drop l)) {lx:aL} (hl:lD ρ lx=l) :
  aB σ ρ G w (.sn s.deps (Ib3 p sz lx s) false y) (.slice (if c=l then A else A.map (·.add (l*sz))) (n-l) (c-l)):=by
 have h0:=Ua8 hvw hL hx h1 (Nat.le_refl n) nz fX hy;unfold Ib3;split
 ·rename_i r k m ho
  simp only[aB]at h0 ⊢;refine⟨h0.1,fun hv=>⟨(h0.2 hv).1,(h0.2 hv).2.1,?_⟩⟩;intro r2 k2 m2 e2 jh;have a7:=hL.own;unfold vH at a7;rw[ho]at a7;obtain⟨h3,-,-,-,h5⟩:=a7;rw[h3]at e2;obtain⟨rfl,rfl⟩:r=r2/\k=k2:=by simpa using e2
  simp only[bD,Acb,zN]at h5;exact⟨A,n,c,h5.symm,by rw[hl];exact h1,by rw[hl]⟩
 ·exact h0
theorem Ba5 (hR:R E.ntmps F σ ρ a w G)(hg:gOn ρ g=true){lo:Option Operand}{y:aL}
  (h:(match lo with|some a=>rdA E g 0 a|none=>RdM.ret (.c (.int .i64 0)):RdM aL).eval σ=some y) {k:IntKind} {l:Int} (hy:y.val ρ=.int k l) :
  (lo=none/\l=0)\/lo.map a.eval=some (.int k l):=by
 split at h
 ·rename_i x
  have:=jK hR hg h;rw[hy]at this;exact .inr (by rw[Acm,this.int_inv])
 ·simp only[aF,Option.some.injEq]at h
  subst h;simp only[aL.val,D.int.injEq]at hy;exact .inl ⟨rfl,hy.2.symm⟩
theorem San (hR:R E.ntmps F σ ρ a w G)(hd:fG E.ntmps o)(hti:vN P E.ti){nv nb nr:Nat}{mv dt:Bool}{t:TypeId}{x:Operand}{lo hi mx:Option Operand}(ho:o.op=.slice t x lo hi mx){res:bP}
  (h:(qA E mv dt nv nb nr g o).eval σ=some res) (hs:aN cf ρ g nv res.lets):gV P E F σ ρ a w g o Q res.upd:=by
 simp only[qA,ho]at h
 cases mx with
 | some _ =>
  simp only[aA,Zbc]at h;obtain⟨_,_,h⟩:=h;cases h
 |none =>
 simp only[aA,Zbc,tiR,aW]at h;obtain⟨ti,hi1,l,h1,wi,h2,h⟩:=h;obtain⟨info,u,f⟩:=aX (hti.ok _ _ hi1);split at h
 ·rename_i s
  simp only[aA,Zbc,aK]at h;obtain⟨_,gb,h⟩:=h;split at gb
  ·rename_i hb
   simp only[Zbd]at hb;obtain rfl:=Da0 f hb.1;split at h
   ·rename_i h'
    simp only[aA,Zbc]at h;obtain⟨hA,h3,h⟩:=h;refine dK hR hd h hs fun hg d hp=>?_
    simp only[Zb5,Acb]at hp;obtain⟨s',ki,kj,li,eS,e1,e2,e3,e4,e5,e6,e7⟩:=Uat hp;simp only[List.cons.injEq,and_true]at e7;have hx:=fJ hR hg h1;simp only[aB,e1]at hx;have hh:=jK hR hg h3;rw[e3]at hh;refine⟨_,e7▸.str _,Baw ho f.und hx.str_inv (Ba5 hR hg h2 e2) (.inr ⟨by rw[Acm,hh.int_inv],e6⟩) e4 e5⟩
   ·obtain rfl:g=none:=wO (by simpa using hb.2)
    simp only[aF,Option.some.injEq]at h;subst h;simp only[Faw];refine⟨fun hg=>?_,fun hg=>by simp[gOn]at hg⟩;obtain⟨d1,h4,h5⟩:=Cac hs.1 hg;obtain⟨d2,h6,h7⟩:=Cac hs.2.1 hg;simp only[Zb5,Acb,Step.n]at h4 h6 h7;obtain⟨s',ki,kj,li,eS,e1,e2,e3,e4,e5,e6,e7⟩:=Uat h6;rw[e1]at h4;simp only[aU.run,Option.some.injEq,List.cons.injEq,and_true]at h4;rw[h5,<- h4]at e3;obtain⟨-,rfl⟩:IntKind.i64=kj/\(s'.length:Int)=eS:=by injection e3 with a b;exact⟨a,b⟩
    have hx:=fJ hR hg h1;simp only[aB,e1]at hx;refine Ma2 hR hd hg (Baw (kh:=.i64) ho f.und hx.str_inv (Ba5 hR hg h2 e2) (.inl ⟨rfl,rfl⟩) e4 e5) ?_;rw[h7];simp only[List.cons.injEq,and_true]at e7;rw[e7];exact .str _
  ·cases gb
 ·simp only[aA,Zbc,aK]at h
  obtain⟨_,gb,s,h3,ei,h4,h⟩:=h;split at gb
  ·rename_i hel
   cases hel':ti.elem with
   |none=>rw[hel']at hel;cases hel
   |some e =>
   obtain rfl:=qN f hel';rw[hel',Option.getD_some,aW]at h4;obtain⟨jg,u',f'⟩:=aX (hti.ok _ _ h4);generalize hvw:Kav ei lo.isSome s=pf at h;obtain⟨p,fl⟩:=pf;dsimp only at h;split at h
   ·rename_i h'
    simp only[aA,Zbc]at h;obtain⟨hA,h5,h⟩:=h;split at h
    ·rename_i dp pp z _
     refine dQ hR hd h hs fun hg aE=>?_
     obtain⟨d,h6,h7⟩:=fV aE hg;simp only[Zb5,Acb]at h6;obtain⟨rs,ki,kj,li,eS,e1,e2,e3,e4,e5,e6,e7,e8⟩:=Sal h6;have hl:=fJ hR hg h1;have hh:=jK hR hg h5;rw[e3]at hh
     have hz:s.x=.c (.rows z []):=by
      unfold yJ at h3;simp only[aA,Zbc]at h3;obtain⟨ds,-,h3⟩:=h3;split at h3
      ·simp only[aF,Option.some.injEq]at h3;rw[<- h3]
      ·simp only[aA,aT,Zbj]at h3
       split at h3
       ·simp only[aF,Option.some.injEq]at h3;rw[<- h3]
       ·cases h3
      ·simp only[aF,Option.some.injEq]at h3;rw[<- h3]
     have fh:a.eval x=.slice none 0 0:=by
      unfold yJ at h3;simp only[aA,Zbc]at h3;obtain⟨ds,h3,-⟩:=h3;have fw:=hl;simp only[aB]at fw;exact (fw.2 (jC h3).1).2.1 trivial z rfl
     rw[hz]at e1
     obtain⟨-,rfl⟩:z=ei.size/\[]=rs:=by
      simp only[aL.val]at e1
      injection e1 with a b;exact⟨a,b⟩
     have y4:li=0:=by simp at e7;omega
     have sj:eS=0:=by simp at e7;omega
     subst y4 sj;refine⟨a.eval x,hl,?_⟩;rw[vY (kh:=kj) (kl:=ki) (l:=0) (h:=0) ho f.und (f'.sizeOf w) fh (Ba5 hR hg h2 e2) (.inr ⟨by rw[Acm,hh.int_inv],by simp⟩) (by omega) (by omega),fh];rfl
    ·refine dQ hR hd h hs fun hg aE=>?_
     obtain⟨d,h6,h7⟩:=fV aE hg;simp only[Zb5,Acb]at h6;obtain⟨rs,ki,kj,li,eS,e1,e2,e3,e4,e5,e6,e7,e8⟩:=Sal h6;have hh:=jK hR hg h5;rw[e3]at hh;have hL:=dX hR h3 (fJ hR hg h1);have im:=hL.rd;rw[e1]at im;obtain⟨A,b,n,c,vs,i1,i2,i3,-⟩:=im.inv;rw[i1]at hL;have nz:=Ba5 hR hg h2 e2;refine⟨_,?_,vY (kh:=kj) ho f.und (f'.sizeOf w) i1 nz (.inr ⟨by rw[Acm,hh.int_inv],by omega⟩) e5 e6⟩;refine Ua8 hvw hL e1 (by omega) (by omega) (fun hf=>?_) e4 ?_
     ·rcases nz with ⟨-,nx⟩|nx
      ·rw[nx];rfl
      ·cases lo with
       |none=>simp at nx
       |some _=>simp at hf
     ·rw[h7]
      simpa using e8
   ·refine dQ hR hd h hs fun hg aE=>?_
    obtain⟨d1,ve,h5⟩:=Cac aE.1 hg;obtain⟨d2,h6,h7⟩:=Cac aE.2.1 hg;simp only[Zb5,Acb,Step.n]at ve h6 h7;obtain⟨rs,ki,kj,li,eS,e1,e2,e3,e4,e5,e6,e7,e8⟩:=Sal h6;rw[e1]at ve;simp only[aU.run,Option.some.injEq,List.cons.injEq,and_true]at ve;rw[h5,<- ve]at e3;obtain⟨-,rfl⟩:IntKind.i64=kj/\(rs.length:Int)=eS:=by injection e3 with a b;exact⟨a,b⟩
    have hL:=dX hR h3 (fJ hR hg h1);have im:=hL.rd;rw[e1]at im;obtain⟨A,b,n,c,vs,i1,i2,i3,-⟩:=im.inv;rw[i1]at hL;have nz:=Ba5 hR hg h2 e2;refine⟨_,?_,vY (kh:=.i64) ho f.und (f'.sizeOf w) i1 nz (.inl ⟨rfl,by rw[i2]⟩) e5 e6⟩;have kr:lD ρ wi=li.toNat:=by unfold lD;rw[e2]
    have hln:((rs.length:Nat):Int).toNat=n:=by rw[Int.toNat_natCast];exact i2
    rw[hln];refine Zay (lx:=wi) hvw hL e1 (l:=li.toNat) (by omega) (fun hf=>?_) e4 ?_ kr
    ·rcases nz with ⟨-,nx⟩|nx
     ·rw[nx];rfl
     ·cases lo with
      |none=>simp at nx
      |some _=>simp at hf
    ·rw[h7,List.take_of_length_le (by omega:rs.length<=n)]
     simpa using e8
  ·cases gb
end
end Go.Proofs.YtcbkmmhkccnamaaGreat.Rf
