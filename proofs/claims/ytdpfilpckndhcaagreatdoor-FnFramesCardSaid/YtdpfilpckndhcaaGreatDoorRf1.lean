/- Terms for the program's functions, and that they are right: part 1 of 9. -/
import Derived.Calls
import Derived.Laws.Sem
open Array renaming getD_eq_getD_getElem? → Rb3
open List renaming replicate → Qb0, append_assoc → Qb1, mem_cons_of_mem → Qb2, mem_singleton → Qb6, mem_cons_self → Qb7, getElem?_eq_none → Sb4
open Nat renaming lt_or_ge → Rbj, blt → Sbj, testBit → Tbe, le_succ → Tbp
open Option renaming bind_eq_some_iff → Qbp, bind_some → Qb3, map_some → Rb5
set_option linter.unusedSimpArgs false
set_option linter.unusedVariables false
set_option linter.unnecessarySimpa false
set_option linter.unusedSectionVars false
namespace Go.Proofs.YtdpfilpckndhcaaGreatDoor.Rf
set_option linter.unusedVariables false
inductive D where
 |int (k:IntKind) (n:Int)
 |bool (b:Bool)
 |str (s:List UInt8)
 |rows (sz:Nat) (rs:List (List D))
 |undef
 |hole
 deriving Inhabited
inductive aM where
 |v (i:Nat)
 |c (d:D)
 deriving Inhabited
def aM.val (ρ:List D):aM->D
 |.v i=>ρ.getD i .undef
 |.c d=>d
def aM.ok (n:Nat):aM->Prop
 |.v i=>i<n
 |.c _=>True
theorem aM.val_append {n:Nat}{ρ ρ':List D}{x:aM}(h:x.ok ρ.length):x.val (ρ++ρ')=x.val ρ:=by
 cases x with
 |c d=>rfl
 | v i =>
  simp only[aM.ok]at h
  simp[aM.val,List.getD_eq_getElem?_getD,List.getElem?_append_left h]
inductive aO where
 |bin (op:BinOp)
 |eqb (neg:Bool)
 |not | neg | inv
 |conv (k:IntKind)
 |len | slen
 |row (sz off:Nat) (ks:List Bool)
 |inb
 |set (sz off n:Nat)
 |app (sz bytes:Nat) (fl:Bool)
 |mk (sz n:Nat)
 |make (bytes:Nat) (zero:List D)
 |sub (sz:Nat) (fl:Bool)
 |ssub
 |pick
 |eqs (ks:List Nat)
 |min | max
 |bstr
 |sidx
 |sid
 |ne
 |emp
 |one (sz:Nat)
 |dep (m:Nat)
 |clr (sz:Nat)
 |id
 deriving Inhabited
def dZ:Nat:=140737488355328
def zJ (op:BinOp)(k:IntKind)(a b:Int):Option D :=
 match op with
 |.add=>some (.int k (k.wrap (a+b)))
 |.sub=>some (.int k (k.wrap (a-b)))
 |.mul=>some (.int k (k.wrap (a*b)))
 |.quo=>if b=0 then none else some (.int k (k.wrap (a.tdiv b)))
 |.rem=>if b=0 then none else some (.int k (a.tmod b))
 |.and=>some (.int k (k.wrap (BitVec.ofInt k.bits a &&& BitVec.ofInt k.bits b).toNat))
 |.or=>some (.int k (k.wrap (BitVec.ofInt k.bits a ||| BitVec.ofInt k.bits b).toNat))
 |.xor=>some (.int k (k.wrap (BitVec.ofInt k.bits a ^^^ BitVec.ofInt k.bits b).toNat))
 |.andNot=>some (.int k (k.wrap (BitVec.ofInt k.bits a &&& ~~~ (BitVec.ofInt k.bits b)).toNat))
 |.eql=>some (.bool (a==b))
 |.neq=>some (.bool (a != b))
 |.lss=>some (.bool (a<b))
 |.leq=>some (.bool (a<=b))
 |.gtr=>some (.bool (a>b))
 |.geq=>some (.bool (a ≥ b))
 |_=>none
def Xa3 (op:BinOp)(k:IntKind)(a b:Int):Option D :=
 if b<0 then none else
 match op with
 |.shl=>some (.int k (k.wrap (a*2 ^ (min b.toNat k.bits))))
 |.shr=>some (.int k (a.fdiv (2 ^ (min b.toNat k.bits))))
 |_=>none
def Ib9 (op:BinOp)(a b:List UInt8):Option D :=
 match op with
 |.add=>if a.length+b.length<=4611686018427387904 then some (.str (a++b)) else none
 |.eql=>some (.bool (a==b))
 |.neq=>some (.bool (!(a==b)))
 |.lss=>some (.bool (Op.bytesLess a b))
 |.leq=>some (.bool (Op.bytesLess a b||a==b))
 |.gtr=>some (.bool (!(Op.bytesLess a b||a==b)))
 |.geq=>some (.bool (!(Op.bytesLess a b)))
 |_=>none
def Lal (op:BinOp):D->D->Option D
 | .int k a, .int k' b =>
  match op with
  |.shl | .shr=>Xa3 op k a b
  |_=>if k=k' then zJ op k a b else none
 |.str a,.str b=>Ib9 op a b
 |_,_=>none
def eqD:Nat->D->D->Option Bool
 |0,.int k a,.int k' b=>if k=k' then some (a==b) else none
 |1,.bool a,.bool b=>some (a==b)
 |2,.str a,.str b=>some (a==b)
 |_,_,_=>none
def Ral:List Nat->List D->List D->Option Bool
 |[],[],[]=>some true
 |k::ks,a::as,b::bs=>(eqD k a b).bind fun x=>if x then Ral ks as bs else some false
 |_,_,_=>none
def chunk (sz:Nat):Nat->List D->List (List D)
 |0,_=>[]
 |n+1,l=>l.take sz::chunk sz n (l.drop sz)
def bytesOf:List (List D)->Option (List UInt8)
 |[]=>some []
 |[.int .u8 n]::r=>(bytesOf r).map fun l=>UInt8.ofNat n.toNat::l
 |_=>none
def Lbz (op:BinOp):D->D->Option D
 |.int k a,.int k' b=>if k=k' then some (.int k (if (match op with | .lss=>b<a | _=>b>a:Bool) then b else a)) else none
 |_,_=>none
def Nay (op:BinOp):D->List D->Option D
 |x,[]=>some x
 |x,y::r=>(Lbz op x y).bind fun z=>Nay op z r
def D.isSc:D->Bool
 |.int _ _=>true
 |.bool _=>true
 |.str _=>true
 |_=>false
def sI:Nat->D->Bool
 |_,.hole=>true
 |0,d=>d.isSc
 |m+1,.rows _ rs=>rs.all fun r=>r.all fun d=>sI m d
 |_+1,d=>d.isSc
def Ea7:List Bool->List D->Bool
 |[],_=>true
 |k::ks,d::ds=>(!k||d.isSc)&&Ea7 ks ds
 |_::_,[]=>false
def aO.run:aO->List D->Option (List D)
 |.bin op,[a,b]=>(Lal op a b).map fun d=>[d]
 |.eqb ng,[.bool a,.bool b]=>some [.bool (if ng then !(a==b) else a==b)]
 |.not,[.bool b]=>some [.bool (!b)]
 |.neg,[.int k n]=>some [.int k (k.wrap (0-n))]
 |.inv,[.int k n]=>(zJ .xor k (if k.signed then -1 else k.max) n).map fun d=>[d]
 |.conv k,[.int _ n]=>some [.int k (k.wrap n)]
 |.len,[.rows _ rs]=>some [.int .i64 rs.length]
 |.slen,[.str s]=>some [.int .i64 s.length]
 | .row sz off ks, [.rows sz' rs, .int _ i] =>
  if sz'=sz/\0<=i then match rs[i.toNat]? with
   |some r=>if off+ks.length<=r.length/\Ea7 ks (r.drop off)=true then some ((r.drop off).take ks.length) else none
   |none=>none
  else none
 |.inb,[.rows _ rs,.int _ i]=>if 0<=i/\i<rs.length then some [] else none
 | .set sz off n, .rows sz' rs :: .int _ i :: vs =>
  if sz'=sz/\0<=i then match rs[i.toNat]? with
   |some r=>if off+n<=r.length/\vs.length=n then some [.rows sz (rs.set i.toNat (r.take off++vs++r.drop (off+n)))] else none
   |none=>none
  else none
 |.app sz bytes fl,[.rows sz' a,.rows sz'' b]=>if sz'=sz/\sz''=sz/\(!fl||(a++b).all fun r=>r.all D.isSc)=true/\(a.length+b.length)*bytes<=dZ then some [.rows sz (a++b)] else none
 |.mk sz n,vs=>if vs.length=n*sz then some [.rows sz (chunk sz n vs)] else none
 |.make bytes zero,[.int _ n]=>if 0<=n/\n.toNat*bytes<=dZ then some [.rows zero.length (Qb0 n.toNat zero)] else none
 |.sub sz fl,[.rows sz' rs,.int _ lo,.int _ hi]=>if sz'=sz/\(!fl||rs.all fun r=>r.all D.isSc)=true/\0<=lo/\lo<=hi/\hi<=rs.length then some [.rows sz ((rs.take hi.toNat).drop lo.toNat)] else none
 |.ssub,[.str s,.int _ lo,.int _ hi]=>if 0<=lo/\lo<=hi/\hi<=s.length then some [.str ((s.take hi.toNat).drop lo.toNat)] else none
 |.pick,[.bool c,a,b]=>some [if c then a else b]
 |.eqs ks,vs=>(Ral ks (vs.take ks.length) (vs.drop ks.length)).map fun b=>[.bool b]
 |.min,x::r=>(Nay .lss x r).map fun d=>[d]
 |.max,x::r=>(Nay .gtr x r).map fun d=>[d]
 |.bstr,[.rows _ rs]=>(bytesOf rs).map fun l=>[.str l]
 | .sidx, [.str s, .int _ i] => if 0 <= i then match s[i.toNat]? with
   |some b=>some [.int .u8 b.toNat]
   |none=>none
  else none
 |.ne,[.rows _ rs]=>if rs.isEmpty then none else some []
 |.emp,[.rows _ rs]=>some [.bool rs.isEmpty]
 |.dep m,[d]=>if sI m d then some [] else none
 |.id,[a]=>some [a]
 |.clr sz,[.rows sz' rs,.int _ i]=>if sz'=sz/\0<=i then some [.rows sz (rs.take i.toNat++(rs.drop i.toNat).map fun r=>r.map fun _=>.hole)] else none
 |.sid,[.str s]=>some [.str s]
 | .one sz, [.rows sz' rs, .int _ i] => if sz' = sz /\ 0 <= i then match rs[i.toNat]? with
   |some r=>some [.rows sz [r]]
   |none=>none
  else none
 |_,_=>none
inductive Kind where
 |fall | exit (id:Nat) | ret | cont | yield (i:Nat)
 deriving DecidableEq,Inhabited
inductive Tm (β:Type) where
 |leaf (kind:Kind) (xs:List aM) (ext:β)
 |stuck
 |lt (g:Option (aM×Bool)) (p:aO) (xs:List aM) (n:Nat) (k:Tm β)
 |call (g:Option (aM×Bool)) (f:Nat) (xs:List aM) (n:Nat) (olds:List aM) (k:Tm β)
 |ite (c:aM) (t e:Tm β)
 |bind (i:Nat) (t k:Tm β)
 |loop (init:List aM) (body:Tm β)
 deriving Inhabited
structure Out (β:Type) where
 kind:Kind
 xs:List aM
 ext:β
 env:List D
def Out.vals {β:Type}(o:Out β):List D:=o.xs.map (·.val o.env)
def gOn (ρ:List D):Option (aM×Bool)->Bool
 |none=>true
 | some (x, w) => match x.val ρ with
  |.bool b=>b==w
  |_=>false
def iter {β:Type}:Nat->(List D->Option (Out β))->List D->Option (Out β)
 |0,_,_=>none
 |n+1,f,vs=>(f vs).bind fun o=>if o.kind=.cont then iter n f o.vals else some o
def runT {β:Type}(cf:Nat->List D->Option (List D))(fuel:Nat):Tm β->List D->Option (Out β)
 |.leaf k xs e,ρ=>some ⟨k,xs,e,ρ⟩
 |.stuck,_=>none
 | .lt g p xs n k, ρ =>
  if gOn ρ g then (p.run (xs.map (·.val ρ))).bind fun ds=>if ds.length=n then runT cf fuel k (ρ++ds) else none
  else runT cf fuel k (ρ++Qb0 n .undef)
 | .call g f xs n olds k, ρ =>
  if gOn ρ g then (cf f (xs.map (·.val ρ))).bind fun ds=>if ds.length=n then runT cf fuel k (ρ++ds) else none
  else runT cf fuel k (ρ++(Qb0 (n-olds.length) .undef++olds.map (·.val ρ)))
 | .ite c t e, ρ => match c.val ρ with
  |.bool true=>runT cf fuel t ρ
  |.bool false=>runT cf fuel e ρ
  |_=>none
 |.bind i t k,ρ=>(runT cf fuel t ρ).bind fun o=>if o.kind=.yield i then runT cf fuel k (ρ++o.vals) else some o
 |.loop init body,ρ=>iter fuel (fun vs=>runT cf fuel body (ρ++vs)) (init.map (·.val ρ))
inductive Ent where
 |tm (t:Tm Unit)
 |ext (f:List D->Option (List D))
 |none
def Gb3 {β:Type}(o:Out β):Option (List D):=if o.kind=.ret then some o.vals else none
def kY (T:Nat->Ent):Nat->Nat->List D->Option (List D)
 |0,_,_=>none
 | n + 1, f, args => match T f with
  |.tm t=>(runT (kY T n) n t args).bind Gb3
  |.ext e=>e args
  |.none=>none
def Ram {α:Type}(a:Nat->Option α):Prop:=∀ n r,a n=some r->a (n+1)=some r
theorem Ram.le {α:Type}{a:Nat->Option α}(h:Ram a){n m:Nat}{r:α}(hn:n<=m)(hr:a n=some r):a m=some r:=by
 induction hn with
 |refl=>exact hr
 |step _ ih=>exact h _ _ ih
open Classical in
noncomputable def lim {α:Type}(a:Nat->Option α):Option α :=
 if h:∃ r n,a n=some r then some h.choose else none
theorem iD {α:Type}{a:Nat->Option α}(h:Ram a){r:α}:lim a=some r↔∃ n,a n=some r:=by
 unfold lim
 constructor
 ·intro e
  split at e
  ·rename_i hx
   obtain⟨n,hn⟩:=hx.choose_spec
   cases e
   exact⟨n,hn⟩
  ·cases e
 ·rintro⟨n,hn⟩
  have hx:∃ r n,a n=some r:=⟨r,n,hn⟩
  rw[dif_pos hx]
  obtain⟨m,hm⟩:=hx.choose_spec
  have h1:=h.le (Nat.le_max_left n m) hn
  have h2:=h.le (Nat.le_max_right n m) hm
  rw[h1]at h2
  exact h2.symm
theorem Ebb {α:Type}{a:Nat->Option α}(h:∀ n,a n=none):lim a=none:=by
 unfold lim
 rw[dif_neg]
 rintro⟨r,n,hn⟩
 rw[h]at hn
 cases hn
theorem iE {α:Type}(x:Option α):lim (fun _=>x)=x:=by
 cases x with
 |none=>exact Ebb fun _=>rfl
 |some r=>exact (iD (a:=fun _=>some r) fun _ _ h=>h).2 ⟨0,rfl⟩
theorem Ram.bind {α γ:Type}{a:Nat->Option α}{b:Nat->α->Option γ}(ha:Ram a)(hb:∀ x,Ram fun n=>b n x):Ram fun n=>(a n).bind (b n):=by
 intro n r h
 simp only[Qbp]at h ⊢
 obtain⟨x,hx,hr⟩:=h
 exact⟨x,ha _ _ hx,hb x _ _ hr⟩
theorem Ga6 {α γ:Type}{a:Nat->Option α}{b:Nat->α->Option γ}(ha:Ram a)(hb:∀ x,Ram fun n=>b n x) :
  lim (fun n=>(a n).bind (b n))=(lim a).bind fun x=>lim fun n=>b n x:=by
 apply Option.ext
 intro r
 rw[iD (ha.bind hb)]
 simp only[Qbp]
 constructor
 ·rintro⟨n,x,hx,hr⟩
  exact⟨x,(iD ha).2 ⟨n,hx⟩,(iD (hb x)).2 ⟨n,hr⟩⟩
 ·rintro⟨x,hx,hr⟩
  obtain⟨n,hn⟩:=(iD ha).1 hx
  obtain⟨m,hm⟩:=(iD (hb x)).1 hr
  exact⟨max n m,x,ha.le (Nat.le_max_left ..) hn,(hb x).le (Nat.le_max_right ..) hm⟩
def Le {α γ:Type}(f g:α->Option γ):Prop:=∀ x r,f x=some r->g x=some r
theorem oZ {β:Type}{f g:List D->Option (Out β)}(h:Le f g):∀ {n m:Nat},n<=m->Le (iter n f) (iter m g)
 |0,_,_,_,_,hr=>by cases hr
 |n+1,0,hnm,_,_,_=>absurd hnm (by omega)
 | n + 1, m + 1, hnm, vs, r, hr => by
  simp only[iter,Qbp]at hr ⊢
  obtain⟨o,ho,hr⟩:=hr
  refine⟨o,h _ _ ho,?_⟩
  split at hr
  ·rename_i hk
   rw[if_pos hk]
   exact oZ h (by omega) _ _ hr
  ·rename_i hk
   rw[if_neg hk]
   exact hr
theorem Ha5 {β:Type}{cf cg:Nat->List D->Option (List D)}(h:∀ f,Le (cf f) (cg f)){n m:Nat}(hnm:n<=m)(t:Tm β):Le (runT cf n t) (runT cg m t):=by
 induction t with
 |leaf=>exact fun _ _ h=>h
 |stuck=>exact fun _ _ h=>h
 | lt g p xs k' k ih =>
  intro ρ r hr
  simp only[runT]at hr ⊢
  split at hr
  ·rename_i hg
   rw[if_pos hg]
   simp only[Qbp]at hr ⊢
   obtain⟨ds,hd,hr⟩:=hr
   refine⟨ds,hd,?_⟩
   split at hr
   ·rename_i hl;rw[if_pos hl];exact ih _ _ hr
   ·cases hr
  ·rename_i hg
   rw[if_neg hg];exact ih _ _ hr
 | call g f xs k' olds k ih =>
  intro ρ r hr
  simp only[runT]at hr ⊢
  split at hr
  ·rename_i hg
   rw[if_pos hg]
   simp only[Qbp]at hr ⊢
   obtain⟨ds,hd,hr⟩:=hr
   refine⟨ds,h _ _ _ hd,?_⟩
   split at hr
   ·rename_i hl;rw[if_pos hl];exact ih _ _ hr
   ·cases hr
  ·rename_i hg
   rw[if_neg hg];exact ih _ _ hr
 | ite c t e iht ihe =>
  intro ρ r hr
  simp only[runT]at hr ⊢
  split at hr
  ·exact iht _ _ hr
  ·exact ihe _ _ hr
  ·cases hr
 | bind i t k iht ihk =>
  intro ρ r hr
  simp only[runT,Qbp]at hr ⊢
  obtain⟨o,ho,hr⟩:=hr
  refine⟨o,iht _ _ ho,?_⟩
  split at hr
  ·rename_i hk;rw[if_pos hk];exact ihk _ _ hr
  ·rename_i hk;rw[if_neg hk];exact hr
 | loop init body ih =>
  intro ρ r hr
  simp only[runT]at hr ⊢
  exact oZ (fun vs r hr=>ih _ _ hr) hnm _ _ hr
theorem Fal (T:Nat->Ent):∀ {n m:Nat},n<=m->∀ f,Le (kY T n f) (kY T m f)
 |0,_,_,_,_,_,hr=>by cases hr
 |n+1,0,hnm,_,_,_,_=>absurd hnm (by omega)
 | n + 1, m + 1, hnm, f, args, r, hr => by
  simp only[kY]at hr ⊢
  split at hr
  ·simp only[Qbp]at hr ⊢
   obtain⟨o,ho,hr⟩:=hr
   exact⟨o,Ha5 (fun f=>Fal T (by omega) f) (by omega) _ _ _ ho,hr⟩
  ·exact hr
  ·cases hr
section
variable (T:Nat->Ent)
noncomputable def Fun (f:Nat)(args:List D):Option (List D):=lim fun n=>kY T n f args
noncomputable def Ev {β:Type}(t:Tm β)(ρ:List D):Option (Out β):=lim fun n=>runT (kY T n) n t ρ
noncomputable def Lp {β:Type}(body:Tm β)(ρ vs:List D):Option (Out β):=lim fun n=>iter n (fun vs=>runT (kY T n) n body (ρ++vs)) vs
variable {T}
theorem Mbj (f:Nat)(args:List D):Ram fun n=>kY T n f args:=fun n _ h=>Fal T (Tbp n) f _ _ h
theorem Fbg {β:Type}(t:Tm β)(ρ:List D):Ram fun n=>runT (kY T n) n t ρ:=fun n _ h=>Ha5 (fun f=>Fal T (Tbp n) f) (Tbp n) t _ _ h
theorem Qbo {β:Type}(body:Tm β)(ρ vs:List D):Ram fun n=>iter n (fun vs=>runT (kY T n) n body (ρ++vs)) vs :=
 fun n _ h=>oZ (fun vs r hr=>Fbg body _ n r hr) (Tbp n) _ _ h
theorem Hac {f:Nat}{args r:List D}:Fun T f args=some r↔∃ n,kY T n f args=some r:=iD (Mbj f args)
theorem Oae {β:Type}{t:Tm β}{ρ:List D}{o:Out β}:Ev T t ρ=some o↔∃ n,runT (kY T n) n t ρ=some o:=iD (Fbg t ρ)
theorem Ibi {β:Type}(k:Kind)(xs:List aM)(e:β)(ρ:List D):Ev T (.leaf k xs e) ρ=some ⟨k,xs,e,ρ⟩:=iE _
theorem Mbk {β:Type}(g:Option (aM×Bool))(p:aO)(xs:List aM)(n:Nat)(k:Tm β)(ρ:List D) :
  Ev T (.lt g p xs n k) ρ=if gOn ρ g then (p.run (xs.map (·.val ρ))).bind fun ds=>if ds.length=n then Ev T k (ρ++ds) else none
   else Ev T k (ρ++Qb0 n .undef):=by
 unfold Ev
 simp only[runT]
 split
 ·rw[Ga6 (a:=fun _=>p.run _) (fun _ _ h=>h)
   (fun ds=>by split;exact Fbg k _;exact fun _ _ h=>h)]
  rw[iE]
  congr 1
  funext ds
  split
  ·rfl
  ·exact iE _
 ·rfl
theorem Bbs {β:Type}(g:Option (aM×Bool))(f:Nat)(xs:List aM)(n:Nat)(olds:List aM)(k:Tm β)(ρ:List D) :
  Ev T (.call g f xs n olds k) ρ=if gOn ρ g then (Fun T f (xs.map (·.val ρ))).bind fun ds=>if ds.length=n then Ev T k (ρ++ds) else none
   else Ev T k (ρ++(Qb0 (n-olds.length) .undef++olds.map (·.val ρ))):=by
 unfold Ev
 simp only[runT]
 split
 ·rw[Ga6 (a:=fun n=>kY T n f _) (Mbj f _)
   (fun ds=>by split;exact Fbg k _;exact fun _ _ h=>h)]
  rw[<- Fun]
  congr 1
  funext ds
  split
  ·rfl
  ·exact iE _
 ·rfl
theorem Mbl {β:Type}(c:aM)(t e:Tm β)(ρ:List D) :
  Ev T (.ite c t e) ρ=match c.val ρ with
   |.bool true=>Ev T t ρ
   |.bool false=>Ev T e ρ
   |_=>none:=by
 unfold Ev
 simp only[runT]
 split
 ·rfl
 ·rfl
 ·exact iE _
theorem Ibj {β:Type}(i:Nat)(t k:Tm β)(ρ:List D) :
  Ev T (.bind i t k) ρ=(Ev T t ρ).bind fun o=>if o.kind=.yield i then Ev T k (ρ++o.vals) else some o:=by
 unfold Ev
 simp only[runT]
 rw[Ga6 (a:=fun n=>runT (kY T n) n t ρ) (Fbg t ρ) (fun o=>by split;exact Fbg k _;exact fun _ _ h=>h)]
 congr 1
 funext o
 split
 ·rfl
 ·exact iE _
theorem Ibh {β:Type}(init:List aM)(body:Tm β)(ρ:List D):Ev T (.loop init body) ρ=Lp T body ρ (init.map (·.val ρ)):=rfl
theorem Ibg {β:Type}(body:Tm β)(ρ vs:List D) :
  Lp T body ρ vs=(Ev T body (ρ++vs)).bind fun o=>if o.kind=.cont then Lp T body ρ o.vals else some o:=by
 have hm:∀ vs,Ram fun n=>iter n (fun vs=>runT (kY T n) n body (ρ++vs)) vs:=fun vs=>Qbo body ρ vs
 unfold Lp
 have e:∀ vs r,(lim fun n=>iter n (fun vs=>runT (kY T n) n body (ρ++vs)) vs)=some r↔((Ev T body (ρ++vs)).bind fun o=>if o.kind=.cont then (lim fun n=>iter n (fun vs=>runT (kY T n) n body (ρ++vs)) o.vals) else some o)=some r:=by
  intro vs r
  rw[iD (hm vs)]
  simp only[Qbp]
  constructor
  ·rintro⟨n,hn⟩
   cases n with
   |zero=>cases hn
   | succ n =>
    simp only[iter,Qbp]at hn
    obtain⟨o,ho,hr⟩:=hn
    refine⟨o,Oae.2 ⟨n+1,ho⟩,?_⟩
    split at hr
    ·rename_i hk
     rw[if_pos hk,iD (hm _)]
     exact⟨n+1,oZ (fun _ _ h=>h) (Tbp n) _ _ hr⟩
    ·rename_i hk
     rw[if_neg hk];exact hr
  ·rintro⟨o,ho,hr⟩
   obtain⟨n,hn⟩:=Oae.1 ho
   split at hr
   ·rename_i hk
    obtain⟨m,hm'⟩:=(iD (hm _)).1 hr
    refine⟨max n m+1,?_⟩
    simp only[iter,Qbp]
    refine⟨o,(Fbg body (ρ++vs)).le (by omega) hn,?_⟩
    rw[if_pos hk]
    exact oZ (fun vs r h=>(Fbg body (ρ++vs)).le (by omega) h) (by omega) _ _ hm'
   ·rename_i hk
    refine⟨n+1,?_⟩
    simp only[iter,Qbp]
    exact⟨o,Fbg body _ _ _ hn,by rw[if_neg hk];exact hr⟩
 exact Option.ext (e vs)
theorem Mbi {f:Nat}{t:Tm Unit}(h:T f=.tm t)(args:List D):Fun T f args=(Ev T t args).bind Gb3:=by
 apply Option.ext
 intro r
 rw[Hac]
 simp only[Qbp]
 constructor
 ·rintro⟨n,hn⟩
  cases n with
  |zero=>cases hn
  | succ n =>
   simp only[kY,h,Qbp]at hn
   obtain⟨o,ho,hr⟩:=hn
   exact⟨o,Oae.2 ⟨n,ho⟩,hr⟩
 ·rintro⟨o,ho,hr⟩
  obtain⟨n,hn⟩:=Oae.1 ho
  refine⟨n+1,?_⟩
  simp only[kY,h,Qbp]
  exact⟨o,hn,hr⟩
theorem uS {f:Nat}{e:List D->Option (List D)}(h:T f=.ext e)(args:List D):Fun T f args=e args:=by
 apply Option.ext
 intro r
 rw[Hac]
 constructor
 ·rintro⟨n,hn⟩
  cases n with
  |zero=>cases hn
  |succ n=>simpa[kY,h] using hn
 ·intro hr
  exact⟨1,by simpa[kY,h] using hr⟩
end
def Tm.strip {β:Type}:Tm β->Tm Unit
 |.leaf k xs _=>.leaf k xs ()
 |.stuck=>.stuck
 |.lt g p xs n k=>.lt g p xs n k.strip
 |.call g f xs n olds k=>.call g f xs n olds k.strip
 |.ite c t e=>.ite c t.strip e.strip
 |.bind i t k=>.bind i t.strip k.strip
 |.loop init body=>.loop init body.strip
def Out.strip {β:Type}(o:Out β):Out Unit:=⟨o.kind,o.xs,(),o.env⟩
theorem Out.strip_vals {β:Type}(o:Out β):o.strip.vals=o.vals:=rfl
theorem Ka9 {β:Type}{f:List D->Option (Out β)}{g:List D->Option (Out Unit)}(h:∀ vs,g vs=(f vs).map Out.strip):∀ n vs,iter n g vs=(iter n f vs).map Out.strip
 |0,_=>rfl
 | n + 1, vs => by
  simp only[iter,h]
  cases f vs with
  |none=>rfl
  | some o =>
   simp only[Rb5,Qb3]
   by_cases hk:o.kind=.cont
   ·have:o.strip.kind=.cont:=hk
    rw[if_pos hk,if_pos this,Out.strip_vals]
    exact Ka9 h n _
   ·have:¬ o.strip.kind=.cont:=hk
    rw[if_neg hk,if_neg this];rfl
theorem Va5 {β:Type}(cf:Nat->List D->Option (List D))(n:Nat)(t:Tm β):∀ ρ,runT cf n t.strip ρ=(runT cf n t ρ).map Out.strip:=by
 induction t with
 |leaf=>exact fun _=>rfl
 |stuck=>exact fun _=>rfl
 | lt g p xs k' k ih =>
  intro ρ
  simp only[Tm.strip,runT]
  split
  ·cases p.run (xs.map (·.val ρ)) with
   |none=>rfl
   | some ds =>
    simp only[Qb3]
    split
    ·exact ih _
    ·rfl
  ·exact ih _
 | call g f xs k' olds k ih =>
  intro ρ
  simp only[Tm.strip,runT]
  split
  ·cases cf f (xs.map (·.val ρ)) with
   |none=>rfl
   | some ds =>
    simp only[Qb3]
    split
    ·exact ih _
    ·rfl
  ·exact ih _
 | ite c t e iht ihe =>
  intro ρ
  simp only[Tm.strip,runT]
  split
  ·exact iht _
  ·exact ihe _
  ·rfl
 | bind i t k iht ihk =>
  intro ρ
  simp only[Tm.strip,runT,iht]
  cases runT cf n t ρ with
  |none=>rfl
  | some o =>
   simp only[Rb5,Qb3]
   by_cases hk:o.kind=.yield i
   ·have:o.strip.kind=.yield i:=hk
    rw[if_pos hk,if_pos this,Out.strip_vals]
    exact ihk _
   ·have:¬ o.strip.kind=.yield i:=hk
    rw[if_neg hk,if_neg this];rfl
 | loop init body ih =>
  intro ρ
  simp only[Tm.strip,runT]
  exact Ka9 (fun vs=>ih _) _ _
end Go.Proofs.YtdpfilpckndhcaaGreatDoor.Rf

namespace Go.Proofs.YtdpfilpckndhcaaGreatDoor.Rf
set_option linter.unusedVariables false
inductive Tr (α:Type) where
 |nil
 |node (x:Option α) (l r:Tr α)
 |over (n:Nat) (x:Option α) (t:Tr α)
 deriving Inhabited
def Tr.get {α:Type}:Tr α->Nat->Option α
 |.nil,_=>none
 |.node x l r,n=>bif Nat.beq n 0 then x else bif Nat.beq (n % 2) 1 then l.get (n / 2) else r.get (n / 2-1)
 |.over m x t,n=>bif Nat.beq n m then x else t.get n
def Tr.set {α:Type}:Nat->Tr α->Nat->Option α->Tr α
 |0,t,n,x=>.over n x t
 |k+1,.node y l r,n,x=>bif Nat.beq n 0 then .node x l r else bif Nat.beq (n % 2) 1 then .node y (Tr.set k l (n / 2) x) r else .node y l (Tr.set k r (n / 2-1) x)
 |k+1,.nil,n,x=>bif Nat.beq n 0 then .node x .nil .nil else bif Nat.beq (n % 2) 1 then .node none (Tr.set k .nil (n / 2) x) .nil else .node none .nil (Tr.set k .nil (n / 2-1) x)
 |_+1,.over m y t,n,x=>.over n x (.over m y t)
inductive CK where
 |sc (z:D)
 |sl (sz:Nat)
 |pn
 |ot
 deriving Inhabited
structure TI where
 agg:Bool
 size:Nat
 bytes:Nat
 cells:List CK
 flds:List (Nat×Nat)
 elem:Option Nat
 ik:Option IntKind
 isBool:Bool
 isStr:Bool
 isPtr:Bool
 cmp:Bool
 deriving Inhabited
def flat (P:Program):Nat->TypeId->Option (List TypeId)
 |0,_=>none
 | d + 1, t =>
  match P.underlying t with
  |some (.struct fs)=>fs.toList.foldl (fun acc f=>acc.bind fun l=>(flat P d f.type).bind fun m=>bif Nat.beq f.offset l.length then some (l++m) else none) (some [])
  |some (.array _ _)=>none
  |some _=>some [t]
  |none=>none
def qQ (P:Program)(t:TypeId):CK :=
 match P.underlying t with
 |some (.int k)=>.sc (.int k 0)
 |some .bool=>.sc (.bool false)
 |some .string=>.sc (.str [])
 |some (.slice e)=>.sl (((P.info? e).map (·.size)).getD 0)
 |some (.pointer _)=>.pn
 |_=>.ot
def zeroCell:Value->CK->Bool
 |.int k n,.sc (.int k' n')=>decide (k=k')&&decide (n=0)&&decide (n'=0)
 |.bool b,.sc (.bool b')=>decide (b=false)&&decide (b'=false)
 |.string s,.sc (.str l)=>decide (s.data.toList=[])&&decide (l=[])
 |.slice none 0 0,.sl _=>true
 |.pointer none,.pn=>true
 |_,_=>false
def Tao (agg:Bool)(z:Option Value)(cs:List CK):Bool :=
 match agg,z,cs with
 |true,some (.agg vs),cs=>vs.toList.length==cs.length&&(vs.toList.zip cs).all fun p=>zeroCell p.1 p.2
 |false,some v,[c]=>zeroCell v c
 |_,_,_=>false
def Mb5 (P:Program)(d:Nat)(t:TypeId):Bool :=
 match flat P d t,P.info? t with
 |some l,some i=>Nat.beq l.length i.size
 |_,_=>false
def Na5 (P:Program):Nat->TypeId->Bool
 |0,_=>false
 | d + 1, t =>
  match P.underlying t with
  |some (.int _)=>true
  |some .bool=>true
  |some .string=>true
  | some (.struct fs) => !(P.stoodInHeld t) && fs.toList.all fun f => f.name != "_" && Na5 P d f.type && Mb5 P d f.type
  |_=>false
def Ja5:TypeDesc->Bool
 |.struct _=>true
 |.array _ _=>true
 |_=>false
def Abn:TypeDesc->List (Nat×Nat)
 |.struct fs=>fs.toList.map fun f=>(f.offset,f.type)
 |_=>[]
def Ab0:TypeDesc->Option Nat
 |.slice e=>some e
 |_=>none
def Mb9:TypeDesc->Option IntKind
 |.int k=>some k
 |_=>none
def Sas:TypeDesc->Bool
 |.bool=>true
 |_=>false
def Za6:TypeDesc->Bool
 |.string=>true
 |_=>false
def Za7:TypeDesc->Bool
 |.pointer _=>true
 |_=>false
def Pbo (P:Program)(t:TypeId)(i:TypeInfo)(u:TypeDesc)(cs:List CK):TI :=
  { agg:=Ja5 u,size:=i.size,bytes:=i.bytes,cells:=cs,flds:=Abn u,elem:=Ab0 u,ik:=Mb9 u,isBool:=Sas u,isStr:=Za6 u,
    isPtr:=Za7 u,cmp:=Ja5 u&&Na5 P 12 t&&!(P.eqGuardType P.depth t) }
def yB (P:Program)(t:TypeId):Option TI :=
 match P.info? t,P.underlying t,(flat P 12 t).map (·.map (qQ P)) with
 |some i,some u,some cs=>bif Nat.beq cs.length i.size&&Tao (Ja5 u) i.zero cs then some (Pbo P t i u cs) else none
 |_,_,_=>none
inductive Pth where
 |no
 |view
 |path (p:List (aM×Nat×Nat))
 |suf (sz:Nat) (lo:aM)
 deriving Inhabited
inductive aW where
 |dead
 |sc (x:aM)
 |su (g:aM×Bool) (x:aM)
 |ex (r:Nat)
 |sn (deps:List (Nat×Nat)) (p:Pth) (nie:Bool) (x:aM)
 |px (b off:Nat)
 |pe (l:aW) (sz:Nat) (i:aM) (off:Nat)
 |rp (deps:List (Nat×Nat)) (sz:Nat) (x:aM)
 |pn
 |clo (f:Nat) (caps:List aW)
 deriving Inhabited
inductive SV where
 |dead
 |one (l:aW)
 |agg (ls:List aW)
 |tup (vs:List (Bool×List aW))
 deriving Inhabited
inductive RSt where
 |live | frozen | gone
 |fwd (r:Nat)
 deriving DecidableEq,Inhabited
inductive aU where
 |slot (g:Option (aM×Bool)) (v:SV)
 |box (ro:Bool) (ls:List aW)
 |root (x:aM) (m ver:Nat) (st:RSt)
 deriving Inhabited
def kT (t:Nat):Nat:=3*t
def kB (b:Nat):Nat:=3*b+1
def kR (r:Nat):Nat:=3*r+2
inductive RdM (α:Type) where
 |ret (a:α)
 |no
 |rd (k:Nat) (f:Option aU->RdM α)
def RdM.bind {α γ:Type}:RdM α->(α->RdM γ)->RdM γ
 |.ret a,f=>f a
 |.no,_=>.no
 |.rd k h,f=>.rd k fun c=>(h c).bind f
instance:Monad RdM:={ pure:=.ret,bind:=.bind }
def RdM.run {α:Type}(look:Nat->Option aU):RdM α->Option (α×List Nat)
 |.ret a=>some (a,[])
 |.no=>none
 |.rd k f=>((f (look k)).run look).map fun x=>(x.1,k::x.2)
def RdM.eval {α:Type}(look:Nat->Option aU):RdM α->Option α
 |.ret a=>some a
 |.no=>none
 |.rd k f=>(f (look k)).eval look
def rdK (k:Nat):RdM (Option aU):=.rd k .ret
def qK {α:Type}:Option α->RdM α
 |some a=>.ret a
 |none=>.no
def bY (b:Bool):RdM Unit:=bif b then .ret () else .no
inductive Step where
 |prim (p:aO) (xs:List aM) (n:Nat)
 |call (f:Nat) (xs:List aM) (n:Nat) (olds:List aM)
 deriving Inhabited
def Step.n:Step->Nat
 |.prim _ _ n=>n
 |.call _ _ n _=>n
structure dD where
 lets:List Step
 upd:List (Nat×aU)
 deriving Inhabited
def bT (l:List Step):Nat:=l.foldl (fun s x=>s+x.n) 0
inductive LS where
 |sc
 |fz (nie:Bool)
 |mu (m:Nat)
 |ow (m:Nat)
 |px (b:Nat)
 |clo (f:Nat) (caps:List LS)
 |rp (sz:Nat)
 deriving Inhabited
inductive BS where
 |sc
 |fz (nie:Bool)
 |ow (m:Nat)
 |ot
 deriving Inhabited
inductive BO where
 |sc
 |fz
 |ow (m:Nat)
 |dead
 deriving Inhabited
inductive LR where
 |sc
 |fz
 |ow (m:Nat)
 |rp (sz:Nat)
 |bx (cells:List BO)
 deriving Inhabited
structure Sig where
 fn:Nat
 params:List (Bool×List LS)
 boxes:List (Bool×List (BS×BO))
 results:List (Bool×List LR)
 deriving Inhabited
structure Env where
 ti:Nat->Option TI
 sigs:List (Nat×Sig)
 ntmps:Nat
 ngh:Nat:=0
 freezeEx:Bool:=false
 moveSn:Bool:=false
 nomv:List (Nat×Nat):=[]
 hints:List (Nat×List (Nat×Nat×Nat×Nat)×List Nat×Nat×List Nat):=[]
 deriving Inhabited
def Nbd (a b:IntKind):Bool:=decide (a=b)
def D.beq0:D->D->Bool
 |.int k n,.int k' n'=>Nbd k k'&&decide (n=n')
 |.bool a,.bool b=>a==b
 |.str a,.str b=>a==b
 |.rows s [],.rows s' []=>Nat.beq s s'
 |.undef,.undef=>true
 |.hole,.hole=>true
 |_,_=>false
def aM.beq0:aM->aM->Bool
 |.v i,.v j=>Nat.beq i j
 |.c a,.c b=>a.beq0 b
 |_,_=>false
def Hbr:Option (aM×Bool)->Option (aM×Bool)->Bool
 |none,none=>true
 |some (a,b),some (c,d)=>a.beq0 c&&(b==d)
 |_,_=>false
def gU:CK->aW
 |.sc z=>.sc (.c z)
 |.sl sz=>.sn [] .no true (.c (.rows sz []))
 |.pn=>.pn
 |.ot=>.dead
def Tab (ti:Nat->Option TI)(t:TypeId):Value->Option SV
 |.int k n=>some (.one (.sc (.c (.int k n))))
 |.bool b=>some (.one (.sc (.c (.bool b))))
 |.string s=>some (.one (.sc (.c (.str s.data.toList))))
 | .slice none 0 0 => match ti t with
  |some { cells:=[.sl sz],.. }=>some (.one (.sn [] .no true (.c (.rows sz []))))
  |_=>none
 |.pointer none=>some (.one .pn)
 |_=>none
section
variable (E:Env)
def noG:Option (aM×Bool)->Bool
 |none=>true
 |some _=>false
def unG (g:Option (aM×Bool)):SV->SV
 |.one (.su h x)=>bif Hbr g (some h) then .one (.sc x) else .one (.su h x)
 |v=>v
def gOk (g:Option (aM×Bool)):Option (aM×Bool)->Bool
 |none=>true
 |g'=>Hbr g g'
def Pap (g:Option (aM×Bool))(t:TypeId):Operand->RdM SV
 | .tmp k => .rd (kT k) fun
  |some (.slot g' v)=>bif gOk g g'&&Sbj k E.ntmps then .ret (unG g v) else .no
  |_=>.no
 |.const v=>qK (Tab E.ti t v)
 |.func f=>.ret (.one (.clo f []))
 |.global _=>.no
def one:SV->RdM aW
 |.one l=>.ret l
 |_=>.no
def rdL (g:Option (aM×Bool))(t:TypeId)(x:Operand):RdM aW:=do one (<- Pap E g t x)
def xS (g:Option (aM×Bool)):aW->Option aM
 |.sc a=>some a
 |.su h a=>bif Hbr g (some h) then some a else none
 |_=>none
def rdA (g:Option (aM×Bool))(t:TypeId)(x:Operand):RdM aM:=do
 qK (xS g (<- rdL E g t x))
def Kaz (g:Option (aM×Bool))(h:aM×Bool)(t:TypeId)(x:Operand):RdM aM:=do
 let l <- rdL E g t x
 match xS g l with
 |some a=>.ret a
 |none=>qK (xS (some h) l)
def mkS (g:Option (aM×Bool))(x:aM):SV:=match g with
 |none=>.one (.sc x)
 |some z=>.one (.su z x)
def yQ:List (Nat×Nat)->RdM (List (Nat×Nat))
 |[]=>.ret []
 | (r, k) :: rest => do
  match <- rdK (kR r) with
  | some (.root _ _ ver st) =>
   let ds <- yQ rest
   match st with
   |.frozen=>bif Nat.beq ver k then .ret ds else .no
   |.live=>bif Nat.beq ver k then .ret ((r,k)::ds) else .no
   |_=>.no
  |_=>.no
structure SlR where
 x:aM
 deps:List (Nat×Nat)
 own:Option (Nat×Nat×Nat×Pth)
 nie:Bool
def Aak:aW->RdM SlR
 | .ex r => do
  match <- rdK (kR r) with
  |some (.root x m ver .live)=>.ret ⟨x,[(r,ver)],some (r,ver,m,.path []),false⟩
  |some (.root x m ver .frozen)=>.ret ⟨x,[],none,false⟩
  |_=>.no
 | .sn deps p nie x => do
  let ds <- yQ deps
  match p,deps,ds with
  |.no,_,_=>.ret ⟨x,ds,none,nie⟩
  | p, [(r, k)], [_] => do
   match <- rdK (kR r) with
   |some (.root _ m _ .live)=>.ret ⟨x,[(r,k)],some (r,k,m,p),nie⟩
   |_=>.no
  |_,_,_=>.ret ⟨x,ds,none,nie⟩
 |_=>.no
def kG (s:SlR)(i:aM)(sz off:Nat):CK->aM->aW
 |.sc _,y=>.sc y
 | .sl _, y =>
  match s.own with
  |some (r,k,m,.path p)=>bif Nat.ble (p.length+2) m then .sn [(r,k)] (.path (p++[(i,sz,off)])) false y else .sn [] .no false y
  |_=>.sn s.deps .no false y
 |_,_=>.dead
def fT (s:SlR)(i:aM)(sz:Nat):Nat->List CK->Nat->List aW
 |_,[],_=>[]
 |off,c::cs,y=>kG s i sz off c (.v y)::fT s i sz (off+1) cs (y+1)
def kP (agg:Bool):SV->Option (List aW)
 |.one l=>bif agg then none else some [l]
 |.agg ls=>bif agg then some ls else none
 |_=>none
def Ta0 (agg:Bool)(ls:List aW):Option SV :=
 bif agg then some (.agg ls) else match ls with
  |[l]=>some (.one l)
  |_=>none
def Fa9:CK->Nat
 |.sc (.int _ _)=>0
 |.sc (.bool _)=>1
 |.sc (.str _)=>2
 |_=>3
def Hbg:CK->Bool
 |.sc _=>true
 |_=>false
def Oaj:List CK->Bool
 |[]=>true
 |.sc _::r=>Oaj r
 |_=>false
structure Put where
 xs:List aM
 moves:List (Nat×Nat×Nat)
 holes:List (Nat×Nat×List (aM×Nat×Nat))
 frz:List Nat
 depth:Nat
def big:Nat:=99
def Sai (mv mvs:Bool)(off:Nat):aW->RdM Put
 |.sc x=>.ret ⟨[x],[],[],[],big⟩
 | .ex r => do
  match <- rdK (kR r) with
  |some (.root x m ver .live)=>bif mv then .ret ⟨[x],[(off,r,m)],[],[],m⟩ else .ret ⟨[x],[],[],[r],0⟩
  |some (.root x m ver .frozen)=>.ret ⟨[x],[],[],[],0⟩
  |_=>.no
 | .sn deps p nie x => do
  match deps,nie,x with
  |[],true,.c (.rows _ [])=>.ret ⟨[x],[],[],[],big⟩
  | _, _, _ =>
   let s <- Aak (.sn deps p nie x)
   match s.own with
   |some (r,k,m,.path q)=>bif mvs&&Nat.ble (q.length+1) m then .ret ⟨[x],[],[(off,r,q)],[],m-q.length⟩ else .ret ⟨[x],[],[],[r],0⟩
   |_=>.ret ⟨[x],[],[],s.deps.map (·.1),0⟩
 |_=>.no
def vG (mv mvs:Bool):Nat->List aW->RdM Put
 |_,[]=>.ret ⟨[],[],[],[],big⟩
 | off, l :: ls => do
  let a <- Sai mv mvs off l
  let b <- vG mv mvs (off+1) ls
  .ret ⟨a.xs++b.xs,a.moves++b.moves,a.holes++b.holes,a.frz++b.frz,min a.depth b.depth⟩
def has (l:List Nat)(n:Nat):Bool:=l.any (Nat.beq n)
def meets (a b:List Nat):Bool:=a.any fun x=>has b x
def eY:List Nat->RdM (List (Nat×aU))
 |[]=>.ret []
 | r :: rs => do
  match <- rdK (kR r) with
  | some (.root x m ver .live) => do
   let l <- eY rs
   .ret ((kR r,.root x m ver .frozen)::l)
  |some (.root _ _ _ .frozen)=>eY rs
  |_=>.no
def distinct:List Nat->Bool
 |[]=>true
 |x::r=>!(has r x)&&distinct r
def Nae:Nat->aM->List (aM×Nat×Nat)->aM->List Step×aM
 |_,_,[],y=>([],y)
 | nv, X, (i, sz, off) :: p, y =>
  match p with
  |[]=>([.prim (.set sz off 1) [X,i,y] 1],.v nv)
  | _ =>
   let (l,z):=Nae (nv+1) (.v nv) p y
   let n:=bT l
   ([.prim (.row sz off [false]) [X,i] 1]++l++[.prim (.set sz off 1) [X,i,z] 1],.v (nv+1+n))
def wP (o:Oper)(g:Option (aM×Bool))(lets:List Step)(v:SV)(upd:List (Nat×aU)):RdM dD :=
 .ret ⟨lets,(match o.dst with|some d=>[(kT d,.slot g v)]|none=>[])++upd⟩
def wO (o:Oper)(g:Option (aM×Bool))(nv:Nat)(p:aO)(xs:List aM):RdM dD :=
 .ret ⟨[.prim p xs 1],match o.dst with|some d=>[(kT d,.slot none (mkS g (.v nv)))]|none=>[]⟩
def Zaj (o:Oper)(g:Option (aM×Bool))(nv:Nat)(v:SV):RdM dD :=
 match g,v with
 | some _, .one l => match xS g l with
  |some x=>wO o g nv .id [x]
  |none=>wP o g [] v []
 |_,_=>wP o g [] v []
def atoms:List aW->Option (List aM)
 |[]=>some []
 |.sc x::r=>(atoms r).map (x::·)
 |_=>none
def xV:List SV->Option (List aW)
 |[]=>some []
 |.one l::r=>(xV r).map (l::·)
 |_=>none
def Jah (g:Option (aM×Bool)):List aW->Option (List aM)
 |[]=>some []
 |l::r=>(xS g l).bind fun x=>(Jah g r).map (x::·)
def tiR (t:TypeId):RdM TI:=qK (E.ti t)
def setRange {α:Type}(ls:List α)(off:Nat)(vs:List α):List α:=ls.take off++vs++ls.drop (off+vs.length)
def Oa3:aW->Bool
 |.su _ _=>false
 |_=>true
def Ean (nv:Nat)(mv mvs:Bool)(o:Oper)(g:Option (aM×Bool))(ti:TI)(p:aW)(ls:List aW):RdM dD:=do
 bY (Nat.beq ls.length ti.size&&o.dst.isNone)
 match p with
 | .px b off => do
  match <- rdK (kB b) with
  | some (.box false bs) => do
   bY (Nat.ble (off+ls.length) bs.length&&noG g&&ls.all Oa3)
   .ret ⟨[],[(kB b,.box false (setRange bs off ls))]⟩
  |_=>.no
 | .pe l sz i off => do
  bY (noG g)
  let s <- Aak l
  match s.own with
  | some (r, k, m, .path q) => do
   bY (Nat.ble (q.length+1) m)
   match <- rdK (kR r) with
   | some (.root X m ver .live) => do
    let pu <- vG mv mvs off ls
    let fr <- eY pu.frz
    bY (!(has pu.frz r)&&!(pu.moves.any fun z=>Nat.beq z.2.1 r)&&pu.holes.isEmpty&&distinct (pu.moves.map (·.2.1))&&!(pu.moves.any fun z=>has pu.frz z.2.1))
    let m':=min m (q.length+1+pu.depth)
    let st1:Step:=.prim (.set sz off ti.size) ([s.x,i]++pu.xs) 1
    let (l2,X'):=Nae (nv+1) X q (.v nv)
    .ret ⟨st1::l2,(kR r,.root X' m' (ver+1) .live)::(pu.moves.map fun z=>(kR z.2.1,.root (.c .hole) 0 0 .gone))++fr⟩
   |_=>.no
  |_=>.no
 |_=>.no
def Tay (nv:Nat)(o:Oper)(g:Option (aM×Bool))(ti:TI)(p:aW):RdM dD:=do
 match p with
 | .px b off => do
  match <- rdK (kB b) with
  | some (.box _ bs) =>
   bY (Nat.ble (off+ti.size) bs.length)
   match Ta0 ti.agg ((bs.drop off).take ti.size) with
   |some v=>Zaj o g nv v
   |none=>.no
  |_=>.no
 | .pe l sz i off => do
  let s <- Aak l
  match Ta0 ti.agg (fT s i sz off ti.cells nv) with
  |some (.one (.sc x))=>wO o g nv (.row sz off [true]) [s.x,i]
  |some v=>wP o g [.prim (.row sz off (ti.cells.map Hbg)) [s.x,i] ti.size] v []
  |none=>.no
 |_=>.no
def Ray (o:Oper)(g:Option (aM×Bool))(fo:Nat):aW->RdM dD
 |.px b off=>wP o g [] (.one (.px b (off+fo))) []
 |.pe l sz i off=>wP o g [] (.one (.pe l sz i (off+fo))) []
 |_=>.no
def vL (flds:List (Nat×Nat))(ti:Nat->Option TI):List aW->List (Nat×SV)->Option (List aW)
 |ls,[]=>some ls
 | ls, (i, v) :: r =>
  match flds[i]? with
  | some (off, t) => match ti t with
   | some f => match kP f.agg v with
    |some vs=>bif Nat.beq vs.length f.size&&Nat.ble (off+f.size) ls.length then vL flds ti (setRange ls off vs) r else none
    |none=>none
   |none=>none
  |none=>none
def Ea1 (g:Option (aM×Bool))(ty:Nat->TypeId):List (Nat×Operand)->RdM (List (Nat×SV))
 |[]=>.ret []
 | (i, x) :: r => do
  let v <- Pap E g (ty i) x
  let l <- Ea1 g ty r
  .ret ((i,v)::l)
def Dau (ti:TI)(len:Nat):List aW->List (Nat×SV)->Option (List aW)
 |ls,[]=>some ls
 | ls, (i, v) :: r =>
  match kP ti.agg v with
  |some vs=>bif Nat.beq vs.length ti.size&&Sbj i len then Dau ti len (setRange ls (i*ti.size) vs) r else none
  |none=>none
def Db2 {α:Type}(l:List α):Nat->List α
 |0=>[]
 |n+1=>l++Db2 l n
def Taz (flatE:Bool)(y:SlR):RdM (Nat×List (Nat×aU)×List Nat) :=
 bif flatE then .ret (big,[],y.deps.map (·.1)) else
 match y.own with
 | some (r, k, m, .path []) =>
  bif Nat.ble 2 m then .ret (m,[(kR r,.root (.c .hole) 0 0 .gone)],[r]) else .ret (1,[],[r])
 | some (r, k, m, _) => do
  let fr <- eY [r]
  .ret (1,fr,[r])
 | none => match y.x with
  |.c (.rows _ [])=>.ret (big,[],[])
  | _ => do
   let fr <- eY (y.deps.map (·.1))
   .ret (1,fr,y.deps.map (·.1))
def Aag (nv nr:Nat)(o:Oper)(ti:TI)(y:SlR)(dy:Nat)(updY:List (Nat×aU))(sx:aM)(m:Nat)(pre:List Step)(upd:List (Nat×aU)):RdM dD :=
 wP o none (pre++[.prim (.app ti.size ti.bytes (Oaj ti.cells)) [sx,y.x] 1]) (.one (.ex nr))
  ((kR nr,.root (.v (nv+bT pre)) (bif Oaj ti.cells then big else min m dy) 0 .live)::upd++updY)
def Mav (nv nr:Nat)(mv mvs:Bool)(o:Oper)(ti:TI)(sl yl:aW):RdM dD:=do
 let y <- Aak yl
 let flatE:=Oaj ti.cells
 let (dy,updY,ry) <- Taz flatE y
 match sl with
 |.sn [] _ true (.c (.rows z []))=>Aag nv nr o ti y dy updY (.c (.rows z [])) big [] []
 | _ => do
  let s <- Aak sl
  match s.own with
  | some (r, k, m, q) =>
   bY ((!(has ry r)||flatE)&&Nat.ble 1 m)
   match q with
   |.path []=>Aag nv nr o ti y dy updY s.x m [] [(kR r,.root (.c .hole) 0 0 .gone)]
   |.view=>bif flatE||Nat.beq m 1 then Aag nv nr o ti y dy updY s.x m [] [(kR r,.root (.c .hole) 0 0 .gone)] else .no
   | .path q => do
    bY (Nat.ble (q.length+1) m&&!(has ry r))
    match <- rdK (kR r) with
    | some (.root X m ver .live) =>
     let (l,X'):=Nae nv X q (.c .hole)
     Aag nv nr o ti y dy updY s.x (m-q.length) l [(kR r,.root X' m (ver+1) .live)]
    |_=>.no
   |.no=>.no
   |.suf _ _=>.no
  |none=>.no
def kH:List LS->List aW->List (Nat×Nat×Nat)->Option (List (Nat×Nat×Nat))
 |[],[],acc=>some acc
 |.px b::ss,.px c off::ls,acc=>kH ss ls ((b,c,off)::acc)
 |_,_,_=>none
def Pac:List LS->List aW->Bool
  |[],[]=>true
  | s :: ss, l :: ls =>
    (match s,l with
     |.sc,.sc _=>true
     |.sc,.su _ _=>true
     |.fz _,.ex _=>true
     |.fz _,.sn ..=>true
     |.mu _,.ex _=>true
     |.mu _,.sn ..=>true
     |.ow _,.ex _=>true
     |.ow _,.sn ..=>true
     |.px _,.px _ _=>true
     |.clo f cs,.clo f' ls'=>Nat.beq f f'&&Nat.beq cs.length ls'.length
     |.rp _,.rp _ _ _=>true
     |_,_=>false)&&Pac ss ls
  |_,_=>false
def vZ:SV->List aW
 |.one l=>[l]
 |.agg ls=>ls
 |_=>[]
def Nb0:SV->Bool
 |.agg _=>true
 |_=>false
def Taj:List (Bool×List LS)->List SV->Bool
 |[],[]=>true
 |(a,ss)::ps,v::vs=>(a==Nb0 v)&&Pac ss (vZ v)&&Taj ps vs
 |_,_=>false
def Iav (f:Nat)(vs:List SV):List (Nat×Sig)->Option (Nat×Sig)
 |[]=>none
 |(k,s)::r=>bif Nat.beq s.fn f&&Taj s.params vs then some (k,s) else Iav f vs r
inductive RT where
 |nil
 |own (r d:Nat)
 |mu (r d:Nat) (q:List (aM×Nat×Nat)) (X:aM)
 deriving Inhabited
structure Take where
 xs:List aM
 ptrs:List (Nat×Nat×Nat)
 deps:List (Nat×Nat)
 lets:List Step
 rts:List RT
def Take.empty:Take:=⟨[],[],[],[],[]⟩
def Oar (g:Option (aM×Bool))(T:Take)(l:aW):RdM Take:=do
 let x <- qK (xS g l)
 .ret { T with xs:=T.xs++[x] }
def uV (T:Take)(nie:Bool)(l:aW):RdM Take:=do
 let s <- Aak l
 .ret { T with xs:=T.xs++[s.x],deps:=T.deps++s.deps,lets:=T.lets++(bif nie&&!s.nie then [.prim .ne [s.x] 0] else []) }
def xQ (T:Take)(d:Nat):aW->RdM Take
 | .ex r => do
  match <- rdK (kR r) with
  | some (.root x m ver .live) => do
   bY (Nat.ble d m)
   .ret { T with xs:=T.xs++[x],rts:=T.rts++[.own r d] }
  |_=>.no
 |.sn [] _ true (.c (.rows z []))=>.ret { T with xs:=T.xs++[.c (.rows z [])],rts:=T.rts++[.nil] }
 |_=>.no
def Kag (T:Take)(d:Nat)(l:aW):RdM Take:=do
 let s <- Aak l
 match s.own with
 | some (r, k, m, .path q) => do
  bY (Nat.ble (q.length+d) m)
  match <- rdK (kR r) with
  |some (.root X _ _ .live)=>.ret { T with xs:=T.xs++[s.x],rts:=T.rts++[.mu r d q X] }
  |_=>.no
 |_=>.no
def Hap (T:Take)(z:Nat):aW->RdM Take
 | .rp deps sz' x => do
  let ds <- yQ deps
  .ret { T with xs:=T.xs++[x],deps:=T.deps++ds }
 |.pn=>.ret { T with xs:=T.xs++[.c (.rows z [])] }
 |_=>.no
def vW (g:Option (aM×Bool))(T:Take):LS->aW->RdM Take
 |.sc,l=>Oar g T l
 |.fz nie,l=>uV T nie l
 |.mu d,l=>Kag T d l
 |.ow d,l=>xQ T d l
 |.px b,.px c off=>.ret { T with ptrs:=T.ptrs++[(b,c,off)] }
 | .clo f cs, .clo f' ls =>
  match kH cs ls [] with
  |some l=>bif Nat.beq f f' then .ret { T with ptrs:=T.ptrs++l } else .no
  |none=>.no
 |.rp z,l=>Hap T z l
 |_,_=>.no
def dW (g:Option (aM×Bool)):Take->List LS->List aW->RdM Take
 |T,[],[]=>.ret T
 | T, s :: ss, l :: ls => do
  let T <- vW g T s l
  dW g T ss ls
 |_,_,_=>.no
def gH (g:Option (aM×Bool)):Take->List (Bool×List LS)->List SV->RdM Take
 |T,[],[]=>.ret T
 | T, (a, ss) :: ps, v :: vs => do
  let ls <- qK (kP a v)
  let T <- dW g T ss ls
  gH g T ps vs
 |_,_,_=>.no
def Caj (T:Take):BS->aW->RdM Take
 |.sc,.sc x=>.ret { T with xs:=T.xs++[x] }
 |.fz nie,l=>uV T nie l
 |.ow d,l=>xQ T d l
 |.ot,l=>bif Oa3 l then .ret T else .no
 |_,_=>.no
def fJ:Take->List (BS×BO)->List aW->RdM Take
 |T,[],_=>.ret T
 | T, (s, _) :: ss, l :: ls => do
  let T <- Caj T s l
  fJ T ss ls
 |_,_::_,[]=>.no
def Pb5:List (BS×BO)->Bool
 |[]=>true
 |(.ow _,_)::_=>false
 |_::r=>Pb5 r
def rR (b:Nat):List (Nat×Nat×Nat)->Option (Nat×Nat)
 |[]=>none
 |(b',c,off)::r=>bif Nat.beq b' b then some (c,off) else rR b r
def fZ (ptrs:List (Nat×Nat×Nat)):Take->Nat->List (Bool×List (BS×BO))->RdM Take
 |T,_,[]=>.ret T
 | T, b, (ro, cs) :: r => do
  match rR b ptrs with
  | some (c, off) => do
   match <- rdK (kB c) with
   | some (.box ro' ls) => do
    bY (((ro&&Pb5 cs)||(!ro&&!ro'&&!cs.isEmpty))&&Nat.ble (off+cs.length) ls.length)
    let T <- fJ T cs (ls.drop off)
    fZ ptrs T (b+1) r
   |_=>.no
  |none=>.no
def jH (w:Bool)(ptrs:List (Nat×Nat×Nat)):Nat->List (Bool×List (BS×BO))->List Nat
 |_,[]=>[]
 |b,(ro,_)::r=>bif ro==w then (match rR b ptrs with | some (c,_)=>c::jH w ptrs (b+1) r | none=>jH w ptrs (b+1) r) else jH w ptrs (b+1) r
def Uac (nbx:Nat)(ptrs:List (Nat×Nat×Nat)):List (Nat×Nat×Nat)->Bool
 |[]=>true
 |(b,c,off)::r=>Sbj b nbx&&(match rR b ptrs with | some (c',off')=>Nat.beq c c'&&Nat.beq off off' | none=>false)&&Uac nbx ptrs r
def dO:List RT->List Nat
 |[]=>[]
 |.nil::r=>dO r
 |.own s _::r=>s::dO r
 |.mu s _ _ _::r=>s::dO r
def Xas (s:Sig)(T:Take):Bool :=
 let wr:=jH false T.ptrs 0 s.boxes
 Uac s.boxes.length T.ptrs T.ptrs&&distinct (dO T.rts)&&!(T.deps.any fun d=>has (dO T.rts) d.1)&&distinct wr&&!(meets wr (jH true T.ptrs 0 s.boxes))
def LR.n:LR->Nat
 |.bx cs=>cs.length
 |_=>1
def pU:List LR->Nat
 |[]=>0
 |s::ss=>s.n+pU ss
def bxL:List LR->Nat
 |[]=>0
 |.bx _::ss=>1+bxL ss
 |_::ss=>bxL ss
def lZ:List (Bool×List LR)->Nat
 |[]=>0
 |(_,ss)::rs=>bxL ss+lZ rs
def bW:List (Bool×List LR)->Nat
 |[]=>0
 |(_,ss)::rs=>pU ss+bW rs
def kI (deps:List (Nat×Nat))(y nr:Nat):BO->aW×List (Nat×aU)×Nat
 |.sc=>(.sc (.v y),[],nr)
 |.fz=>(.sn deps .no false (.v y),[],nr)
 |.ow m=>(.ex nr,[(kR nr,.root (.v y) m 0 .live)],nr+1)
 |.dead=>(.dead,[],nr)
def eU (deps:List (Nat×Nat)):Nat->Nat->List BO->List aW×List (Nat×aU)×Nat
 |_,nr,[]=>([],[],nr)
 | y, nr, s :: ss =>
  let (l,u,nr):=kI deps y nr s
  let (ls,us,nr):=eU deps (y+1) nr ss
  (l::ls,u++us,nr)
def dP (gd:Bool)(deps:List (Nat×Nat))(nb y nr:Nat):LR->aW×List (Nat×aU)×Nat
 |.sc=>(.sc (.v y),[],nr)
 |.fz=>(.sn deps .no false (.v y),[],nr)
 |.ow m=>bif gd then (.sn deps .no false (.v y),[],nr+1) else (.ex nr,[(kR nr,.root (.v y) m 0 .live)],nr+1)
 |.rp sz=>(.rp deps sz (.v y),[],nr)
 | .bx cs =>
  let (ls,us,nr):=eU deps y nr cs
  (.px nb 0,(kB nb,.box false ls)::us,nr)
def eB (gd:Bool)(deps:List (Nat×Nat))(nb:Nat):Nat->Nat->List LR->List aW×List (Nat×aU)×Nat
 |_,nr,[]=>([],[],nr)
 | y, nr, s :: ss =>
  let (l,u,nr):=dP gd deps nb y nr s
  let (ls,us,nr):=eB gd deps nb (y+s.n) nr ss
  (l::ls,u++us,nr)
def jO (gd:Bool)(deps:List (Nat×Nat))(nb:Nat):Nat->Nat->List (Bool×List LR)->List (Bool×List aW)×List (Nat×aU)×Nat
 |_,nr,[]=>([],[],nr)
 | y, nr, (a, s) :: ss =>
  let (l,u,nr):=eB gd deps nb y nr s
  let (ls,us,nr):=jO gd deps nb (y+pU s) nr ss
  ((a,l)::ls,u++us,nr)
def nR (ptrs:List (Nat×Nat×Nat))(deps:List (Nat×Nat)):Nat->Nat->Nat->List (Bool×List (BS×BO))->RdM (List (Nat×aU))
 |_,y,nr,[]=>.ret []
 | b, y, nr, (ro, cs) :: r =>
  bif ro then nR ptrs deps (b+1) y nr r else
  match rR b ptrs with
  | some (c, off) => do
   match <- rdK (kB c) with
   | some (.box false ls) => do
    let (ns,us,nr):=eU deps y nr (cs.map (·.2))
    let rest <- nR ptrs deps (b+1) (y+cs.length) nr r
    .ret ((kB c,.box false (setRange ls off ns))::us++rest)
   |_=>.no
  |none=>.no
def Baf:Nat->Nat->List RT->RdM (List Step×List (Nat×aU))
 |_,_,[]=>.ret ([],[])
 | y, nv, .mu r d q X :: rest => do
  match <- rdK (kR r) with
  | some (.root _ m v .live) => do
   let (l,X'):=Nae nv X q (.v y)
   let (ls,us) <- Baf (y+1) (nv+bT l) rest
   .ret ((bif Nat.beq (q.length+d) m then [] else [.prim (.dep d) [.v y] 0])++(l++ls),(kR r,.root X' m (v+1) .live)::us)
  |_=>.no
 |y,nv,_::rest=>Baf y nv rest
def iI:List RT->List (Nat×aU)
 |[]=>[]
 |.own r _::rest=>(kR r,.root (.c .hole) 0 0 .gone)::iI rest
 |_::rest=>iI rest
def fO:List (Bool×List (BS×BO))->Nat
 |[]=>0
 |(ro,cs)::r=>(bif ro then 0 else cs.length)+fO r
def qP:Nat->List BO->List Step
 |_,[]=>[]
 |y,.ow m::r=>.prim (.dep m) [.v y] 0::qP (y+1) r
 |y,_::r=>qP (y+1) r
def Taf:Nat->List LR->List Step
 |_,[]=>[]
 |y,.ow m::r=>.prim (.dep m) [.v y] 0::Taf (y+1) r
 |y,.bx cs::r=>qP y cs++Taf (y+cs.length) r
 |y,_::r=>Taf (y+1) r
def Ab9:Nat->List (Bool×List LR)->List Step
 |_,[]=>[]
 |y,(_,ss)::r=>Taf y ss++Ab9 (y+pU ss) r
def Bba:Nat->List RT->List Step
 |_,[]=>[]
 |y,.mu _ d _ _::r=>.prim (.dep d) [.v y] 0::Bba (y+1) r
 |y,_::r=>Bba y r
def Wa0:Nat->List (Bool×List (BS×BO))->List Step
 |_,[]=>[]
 |y,(ro,cs)::r=>bif ro then Wa0 y r else qP y (cs.map (·.2))++Wa0 (y+cs.length) r
def zI:RT->Bool
 |.mu _ _ _ _=>true
 |_=>false
def lQ:List (BS×BO)->List aW->RdM (List aM)
 |[],_=>.ret []
 | (s, o) :: ss, l :: ls => do
  let x <- (match s,o,l with
   |.sc,.sc,.sc x=>RdM.ret x
   | .fz _, .fz, l => do
    let r <- Aak l
    RdM.ret r.x
   |_,.dead,l=>bif Oa3 l then .ret (.c .hole) else .no
   |_,_,_=>.no)
  let r <- lQ ss ls
  .ret (x::r)
 |_::_,[]=>.no
def jI (ptrs:List (Nat×Nat×Nat)):Nat->List (Bool×List (BS×BO))->RdM (List aM)
 |_,[]=>.ret []
 | b, (ro, cs) :: r =>
  bif ro then jI ptrs (b+1) r else
  match rR b ptrs with
  | some (c, off) => do
   match <- rdK (kB c) with
   | some (.box false ls) => do
    let l <- lQ cs (ls.drop off)
    let m <- jI ptrs (b+1) r
    .ret (l++m)
   |_=>.no
  |none=>.no
def Ca3 (g:Option (aM×Bool)):List (Bool×List aW)->SV
 |[(false,[.sc x])]=>mkS g x
 |[(false,[l])]=>.one l
 |[(true,ls)]=>.agg ls
 |rs=>.tup rs
def Db1 (g:Option (aM×Bool)):SV->Option (aM×Bool)
 |.one (.su _ _)=>none
 |_=>g
def Fbm (nv nb nr:Nat)(o:Oper)(g:Option (aM×Bool))(f:Nat)(vs:List SV):RdM dD:=do
 match Iav f vs E.sigs with
 |none=>.no
 | some (key, s) => do
  let T <- gH g Take.empty s.params vs
  let T <- fZ T.ptrs T 0 s.boxes
  bY (Xas s T&&Nat.ble (lZ s.results) 1&&(noG g||(T.rts.isEmpty&&Nat.beq (lZ s.results) 0)))
  let nres:=bW s.results
  let nmu:=(T.rts.filter zI).length
  let total:=nres+nmu+fO s.boxes
  let y0:=nv+bT T.lets
  let (rs,us,nr1):=jO (!noG g) T.deps nb y0 nr s.results
  let bu <- nR T.ptrs T.deps 0 (y0+nres+nmu) nr1 s.boxes
  let chk:=bif T.deps.isEmpty then [] else Ab9 y0 s.results++Bba (y0+nres) T.rts++Wa0 (y0+nres+nmu) s.boxes
  let (ml,mu) <- Baf (y0+nres) (y0+total) T.rts
  let olds <- (match g with
   |none=>RdM.ret []
   |some _=>jI T.ptrs 0 s.boxes)
  let v:=Ca3 g rs
  .ret ⟨T.lets++[.call key (T.xs) total olds]++chk++ml,(match o.dst with|some d=>[(kT d,.slot (Db1 g v) v)]|none=>[])++(us++bu++mu++iI T.rts)⟩
def Bad (g:Option (aM×Bool)):List Operand->List TypeId->RdM (List SV)
 |[],_=>.ret []
 | x :: xs, ts => do
  let v <- Pap E g (ts.headD 0) x
  let l <- Bad g xs ts.tail
  .ret (v::l)
def Ob6:Option IntKind->Bool
 |some k=>Nbd k .u8
 |none=>false
def Laa:Operand->Bool
 |.const (.slice none _ _)=>true
 |_=>false
def Uap:Operand->Bool
 |.const (.pointer none)=>true
 |_=>false
def Mb6 (nv:Nat)(o:Oper)(g:Option (aM×Bool))(neg:Bool)(t:TypeId)(x y:Operand):RdM dD:=do
 let a <- Pap E g t x
 let b <- Pap E g t y
 match a,b with
 | .agg ls, .agg ms => do
  let ti <- tiR E t
  match atoms ls,atoms ms with
  | some xs, some ys => do
   bY (ti.cmp&&Nat.beq xs.length ti.size&&Nat.beq ys.length ti.size)
   let d:=match o.dst with|some d=>[(kT d,aU.slot none (mkS g (.v (bif neg then nv+1 else nv))))]|none=>[]
   .ret ⟨[.prim (.eqs (ti.cells.map Fa9)) (xs++ys) 1]++(bif neg then [.prim .not [.v nv] 1] else []),d⟩
  |_,_=>.no
 | .one l, .one m => do
  let ti <- tiR E t
  match xS g l,xS g m with
  | some p, some q => do
   bif ti.isBool then wO o g nv (.eqb neg) [p,q] else wO o g nv (.bin (bif neg then .neq else .eql)) [p,q]
  |_,_ =>
  let res (p:aO) (x:aM):RdM dD :=
   .ret ⟨[.prim p [x] 1]++(bif neg then [.prim .not [.v nv] 1] else []),match o.dst with|some d=>[(kT d,aU.slot none (mkS g (.v (bif neg then nv+1 else nv))))]|none=>[]⟩
  bif Laa y then do
   bY ti.elem.isSome
   let s <- Aak l
   let r <- res .emp s.x
   .ret (bif s.nie then r else ⟨.prim .ne [s.x] 0::r.lets,r.upd⟩)
  else bif Uap y then do
   bY ti.isPtr
   match l with
   | .rp deps sz x => do
    let _ <- yQ deps
    res .emp x
   |.pn=>wO o g nv .id [.c (.bool (!neg))]
   |.px _ _=>wO o g nv .id [.c (.bool neg)]
   |.pe _ _ _ _=>wO o g nv .id [.c (.bool neg)]
   |_=>.no
  else .no
 |_,_=>.no
def Ja9:List CK->Option (List D)
 |[]=>some []
 |.sc z::r=>(Ja9 r).map (z::·)
 |.sl sz::r=>(Ja9 r).map (.rows sz []::·)
 |_::_=>none
def Kaa (ei:TI)(lo:Bool)(s:SlR):Pth×Bool :=
 let one (m:Nat):Pth×Bool:=bif Nat.beq m 1||!lo then (.view,false) else bif Oaj ei.cells then (.view,true) else (.no,false)
 match s.own with
 |some (_,_,m,.path [])=>one m
 |some (_,_,m,.view)=>one m
 |_=>(.no,false)
def Gbo (p:Pth)(sz:Nat)(lo:aM)(s:SlR):Pth :=
 match p,s.own with
 |.no,some (_,_,_,.path [])=>.suf sz lo
 |p,_=>p
def Raz (nv:Nat)(o:Oper)(ei:TI)(l:aW):RdM dD:=do
 let s <- Aak l
 match s.own with
 | some (r, k, m, .suf sz lo) => do
  bY (Nat.beq sz 1&&Nat.beq ei.size 1&&Nat.ble 1 m)
  match <- rdK (kR r) with
  |some (.root X m' ver .live)=>.ret ⟨[.prim (.clr 1) [X,lo] 1],(match o.dst with | some d=>[(kT d,.slot none .dead)] | none=>[])++[(kR r,.root (.v nv) m' (ver+1) .live)]⟩
  |_=>.no
 |_=>.no
def tJ (mv mvs:Bool)(nv nb nr:Nat)(g:Option (aM×Bool))(o:Oper):RdM dD :=
 match o.op with
 |.move x | .assign x=>do Zaj o g nv (<- Pap E g o.type x)
 | .pick c a b => do
  let c <- rdA E g 0 c
  let a <- Kaz E g (c,true) o.type a
  let b <- Kaz E g (c,false) o.type b
  wO o g nv .pick [c,a,b]
 | .alloc e => do
  let ti <- tiR E e
  bY (noG g)
  wP o g [] (.one (.px nb 0)) [(kB nb,.box false (ti.cells.map gU))]
 | .box e x => do
  let ti <- tiR E e
  let v <- Pap E g e x
  match kP ti.agg v with
  | some ls => do
   bY (Nat.beq ls.length ti.size&&noG g&&ls.all Oa3)
   wP o g [] (.one (.px nb 0)) [(kB nb,.box false ls)]
  |none=>.no
 | .build t parts => do
  let ti <- tiR E t
  bY ti.agg
  let ps <- Ea1 E g (fun i=>(ti.flds.getD i (0,0)).2) parts.toList
  match vL ti.flds E.ti (ti.cells.map gU) ps with
  |some ls=>wP o g [] (.agg ls) []
  |none=>.no
 | .buildSlice t len parts => do
  let st <- tiR E t
  let e <- qK st.elem
  let ti <- tiR E e
  let ps <- Ea1 E g (fun _=>e) parts.toList
  bY (Nat.ble (len*ti.size) 4096&&Sbj 0 ti.size&&Sbj (len*ti.bytes) 4096)
  match Dau ti len (Db2 (ti.cells.map gU) len) ps with
  | some ls => do
   let pu <- vG mv mvs 0 ls
   bY (noG g||(pu.moves.isEmpty&&pu.holes.isEmpty&&pu.frz.isEmpty))
   let fr <- eY pu.frz
   bY (distinct (pu.moves.map (·.2.1))&&!(pu.moves.any fun z=>has pu.frz z.2.1)&&pu.holes.isEmpty)
   bif noG g then
    wP o g [.prim (.mk ti.size len) pu.xs 1] (.one (.ex nr))
     ((kR nr,.root (.v nv) (min big (pu.depth+1)) 0 .live)::(pu.moves.map fun z=>(kR z.2.1,.root (.c .hole) 0 0 .gone))++fr)
   else wP o g [.prim (.mk ti.size len) pu.xs 1] (.one (.sn [] .no false (.v nv))) []
  |none=>.no
 | .load t a => do
  let ti <- tiR E t
  Tay nv o g ti (<- rdL E g 0 a)
 | .store t a x => do
  let ti <- tiR E t
  let p <- rdL E g 0 a
  let v <- Pap E g t x
  match kP ti.agg v with
  |some ls=>Ean nv mv mvs o g ti p ls
  |none=>.no
 | .nilCheck x => do
  match <- rdL E g 0 x with
  | .rp deps sz y => do
   let ds <- yQ deps
   wP o g [.prim .ne [y] 0] (.one (.pe (.sn ds .no false y) sz (.c (.int .i64 0)) 0)) []
  |.px b off=>wP o g [] (.one (.px b off)) []
  |.pe l sz i off=>wP o g [] (.one (.pe l sz i off)) []
  |.clo f cs=>wP o g [] (.one (.clo f cs)) []
  |.pn=>wP o g [.prim .ne [.c (.rows 0 [])] 0] (.one (.pe (.sn [] .no false (.c (.rows 0 []))) 0 (.c (.int .i64 0)) 0)) []
  |_=>.no
 |.binOp .eql t x y _=>Mb6 E nv o g false t x y
 |.binOp .neq t x y _=>Mb6 E nv o g true t x y
 | .binOp op t x y ty => do
  let a <- rdA E g t x
  let b <- rdA E g ty y
  wO o g nv (.bin op) [a,b]
 | .unOp op _ x => do
  let a <- rdA E g 0 x
  match op with
  |.not=>wO o g nv .not [a]
  |.neg=>wO o g nv .neg [a]
  |.xor=>wO o g nv .inv [a]
  |_=>.no
 | .convert src dst x => do
  let s <- tiR E src
  let d <- tiR E dst
  match d.ik with
  | some k => do
   bY s.ik.isSome
   let a <- rdA E g src x
   wO o g nv (.conv k) [a]
  | none =>
   bif d.isStr then
    bif s.isStr then do
     let a <- rdA E g src x
     wO o g nv .sid [a]
    else do
     let e <- qK s.elem
     let ei <- tiR E e
     bY (Ob6 ei.ik)
     let r <- Aak (<- rdL E g src x)
     wO o g nv .bstr [r.x]
   else .no
 | .makeFunc (.func f) first caps => do
  bY first.isEmpty
  let vs <- Bad E g caps.toList []
  let ls <- qK (xV vs)
  wP o g [] (.one (.clo f ls)) []
 | .makeSlice t l c => do
  let st <- tiR E t
  let e <- qK st.elem
  let ti <- tiR E e
  bY (noG g)
  let a <- rdA E g 0 l
  let b <- rdA E g 0 c
  bY (a.beq0 b&&Sbj 0 ti.size&&Sbj 0 ti.bytes)
  let zs <- qK (Ja9 ti.cells)
  wP o none [.prim (.make ti.bytes zs) [a] 1] (.one (.ex nr)) [(kR nr,.root (.v nv) big 0 .live)]
 | .slice t x lo hi mx => do
  let ti <- tiR E t
  match mx with
  |some _=>.no
  | none => do
   let l <- rdL E g t x
   let lo' <- (match lo with|some a=>rdA E g 0 a|none=>RdM.ret (.c (.int .i64 0)))
   match l with
   | .sc s => do
    bY (ti.isStr&&(noG g||hi.isSome))
    match hi with
    | some h => do
     let h <- rdA E g 0 h
     wO o g nv .ssub [s,lo',h]
    | none =>
     .ret ⟨[.prim .slen [s] 1,.prim .ssub [s,lo',.v nv] 1],match o.dst with|some d=>[(kT d,.slot none (mkS g (.v (nv+1))))]|none=>[]⟩
   | l => do
    bY ti.elem.isSome
    let s <- Aak l
    let ei <- tiR E (ti.elem.getD 0)
    let (p,fl):=Kaa ei lo.isSome s
    match hi with
    | some h => do
     let h <- rdA E g 0 h
     match l with
     |.sn _ _ true (.c (.rows z []))=>wP o g [.prim (.sub ei.size fl) [s.x,lo',h] 1] (.one l) []
     |_=>wP o g [.prim (.sub ei.size fl) [s.x,lo',h] 1] (.one (.sn s.deps p false (.v nv))) []
    | none =>
     wP o g [.prim .len [s.x] 1,.prim (.sub ei.size fl) [s.x,lo',.v nv] 1] (.one (.sn s.deps (Gbo p ei.size lo' s) false (.v (nv+1)))) []
 | .fieldAddr t x f => do
  let ti <- tiR E t
  match ti.flds[f]? with
  | some (off, ft) => do
   let fi <- tiR E ft
   bY (Sbj 0 fi.size)
   Ray o g off (<- rdL E g 0 x)
  |none=>.no
 | .field t x f => do
  let ti <- tiR E t
  match ti.flds[f]? with
  | some (off, ft) => do
   let fi <- tiR E ft
   match <- Pap E g t x with
   | .agg ls => do
    bY (Nat.ble (off+fi.size) ls.length&&Nat.beq ls.length ti.size)
    match Ta0 fi.agg ((ls.drop off).take fi.size) with
    |some v=>Zaj o g nv v
    |none=>.no
   |_=>.no
  |none=>.no
 | .indexAddr t x i => do
  let ti <- tiR E t
  let e <- qK ti.elem
  let ei <- tiR E e
  let l <- rdL E g t x
  let s <- Aak l
  let a <- rdA E g 0 i
  bY (Sbj 0 ei.size)
  wP o g [.prim .inb [s.x,a] 0] (.one (.pe l ei.size a 0)) []
 | .index t x i => do
  let ti <- tiR E t
  bY ti.isStr
  let s <- rdA E g t x
  let a <- rdA E g 0 i
  wO o g nv .sidx [s,a]
 | .extract x i => do
  match <- Pap E g 0 x with
  | .tup vs => match vs[i]? with
   | some (a, ls) => match Ta0 a ls with
    |some v=>Zaj o g nv v
    |none=>.no
   |none=>.no
  |_=>.no
 | .call { callee := .builtin b, args, argTypes } => do
  match b,args.toList with
  | .len, [x] => do
   let t <- qK argTypes[0]?
   let ti <- tiR E t
   let l <- rdL E g t x
   match xS g l with
   | some a => do
    bY ti.isStr
    wO o g nv .slen [a]
   | none => do
    bY ti.elem.isSome
    let s <- Aak l
    wO o g nv .len [s.x]
  | .append, [x, y] => do
   let t <- qK argTypes[0]?
   let ty <- qK argTypes[1]?
   let ti <- tiR E t
   let e <- qK ti.elem
   let ei <- tiR E e
   let yi <- tiR E ty
   bY (yi.elem.isSome&&Sbj 0 ei.size&&noG g&&Sbj 0 ei.bytes&&Nat.beq argTypes.size 2)
   Mav nv nr mv mvs o ei (<- rdL E g t x) (<- rdL E g ty y)
  | .clear, [x] => do
   let t <- qK argTypes[0]?
   let ti <- tiR E t
   let e <- qK ti.elem
   let ei <- tiR E e
   bY (noG g&&Nat.beq argTypes.size 1)
   Raz nv o ei (<- rdL E g t x)
  | .min, xs => do
   let vs <- Bad E g xs argTypes.toList
   let as <- qK ((xV vs).bind (Jah g))
   wO o g nv .min as
  | .max, xs => do
   let vs <- Bad E g xs argTypes.toList
   let as <- qK ((xV vs).bind (Jah g))
   wO o g nv .max as
  |_,_=>.no
 | .call { callee := .value f, args, argTypes } => do
  match <- rdL E g 0 f with
  | .clo fn caps => do
   let vs <- Bad E g args.toList argTypes.toList
   Fbm E nv nb nr o g fn (vs++caps.map .one)
  |_=>.no
 |_=>.no
end
end Go.Proofs.YtdpfilpckndhcaaGreatDoor.Rf

namespace Go.Proofs.YtdpfilpckndhcaaGreatDoor.Rf
set_option linter.unusedVariables false
def kX {α:Type}(n:Nat):Option α:=none
structure St where
 tr:Tr aU
 nv:Nat
 nb:Nat
 nr:Nat
 nt:Nat
 deriving Inhabited
def Cad (nt nb nr k:Nat):Bool :=
 bif Nat.beq (k % 3) 0 then Sbj (k / 3) nt else bif Nat.beq (k % 3) 1 then Sbj (k / 3) nb else Sbj (k / 3) nr
def St.get (s:St)(k:Nat):Option aU:=bif Cad s.nt s.nb s.nr k then s.tr.get k else none
def bG (n:Nat):aM->Bool
 |.v i=>Sbj i n
 |.c _=>true
def Eaq (n:Nat):Step->Bool
 |.prim _ xs _=>xs.all (bG n)
 |.call _ xs k olds=>xs.all (bG n)&&olds.all (bG n)&&Nat.ble olds.length k
def fP:Nat->List Step->Bool
 |_,[]=>true
 |n,s::r=>Eaq n s&&fP (n+s.n) r
def sH (n:Nat):Option (aM×Bool)->Bool
 |none=>true
 |some (x,_)=>bG n x
def St.put (s:St)(k:Nat)(c:Option aU):St:={ s with tr:=s.tr.set 16 k c }
def St.puts (s:St):List (Nat×aU)->St
 |[]=>s
 |(k,c)::r=>(s.put k (some c)).puts r
def Ma5 (ops:List Oper)(o:Oper):RdM (Option (aM×Bool)) :=
 match o.guard with
 |none=>.ret none
 | some (j, want) =>
  match (ops[j]?).bind (·.dst) with
  | some d => .rd (kT d) fun
   |some (.slot none (.one (.sc x)))=>.ret (some (x,want))
   |some (.slot none (.one (.su _ x)))=>.ret (some (x,want))
   |_=>.no
  |none=>.no
def dM:Nat:=16
def Aa4 (n nb nr k:Nat):Bool :=
 bif Nat.beq (k % 3) 0 then Sbj (k / 3) n else bif Nat.beq (k % 3) 1 then Nat.ble (k / 3) nb else Sbj (k / 3) (nr+dM)
def Wab:List (Nat×aU)->Nat->Option aU
 |[],_=>none
 | (k', c) :: r, k => match Wab r k with
  |some d=>some d
  |none=>bif Nat.beq k' k then some c else none
def RdM.over {α:Type}(u:List (Nat×aU)):RdM α->RdM α
 |.ret a=>.ret a
 |.no=>.no
 | .rd k f => match Wab u k with
  |some c=>(f (some c)).over u
  |none=>.rd k fun c=>(f c).over u
def Caq:Bool->Op->Option Nat
 |true,.store _ _ (.tmp t)=>some t
 | true, .buildSlice _ _ parts => match parts.toList with
  |[(_,.tmp t)]=>some t
  |_=>none
 |_,_=>none
def Nag:Bool->Oper->Option Nat
 | true, o => match o.op with
  |.load _ _=>o.dst
  |_=>none
 |false,_=>none
def Kam (E:Env)(nv nr t:Nat):RdM (Option (List Step×List (Nat×aU))):=do
 match <- rdK (kT t) with
 | some (.slot none (.one (.sn deps (.path (p :: ps)) nie x))) => do
  let s <- Aak (.sn deps (.path (p::ps)) nie x)
  match s.own with
  | some (r, k, m, .path (q :: qs)) =>
   bif Nat.ble (qs.length+2) m&&Sbj t E.ntmps then do
    match <- rdK (kR r) with
    | some (.root X m' ver .live) =>
     let (l,X'):=Nae nv X (q::qs) (.c .hole)
     .ret (some (l,[(kT t,.slot none (.one (.ex nr))),(kR nr,.root s.x (m-(qs.length+1)) 0 .live),(kR r,.root X' m (ver+1) .live)]))
    |_=>.ret none
   else .ret none
  |_=>.ret none
 |_=>.ret none
def Vau (E:Env)(mv mvs:Bool)(nv nb nr:Nat)(g:Option (aM×Bool))(o:Oper):RdM dD :=
 match Caq (mvs&&noG g) o.op with
 | none => match Nag (mvs && noG g && !mv) o with
  |none=>tJ E mv mvs nv nb nr g o
  | some t => do
   let r <- tJ E mv mvs nv nb nr g o
   match <- (Kam E (nv+bT r.lets) nr t).over r.upd with
   |some (l,u)=>.ret ⟨r.lets++l,r.upd++u⟩
   |none=>.ret r
 | some t => do
  match <- Kam E nv nr t with
  | some (l, u) => do
   let r <- (tJ E mv false (nv+bT l) nb (nr+1) g o).over u
   .ret ⟨l++r.lets,u++r.upd⟩
  |none=>tJ E mv false nv nb nr g o
def mW (E:Env)(ops:List Oper)(mv mvs:Bool)(nv nb nr:Nat)(o:Oper):RdM (Option (aM×Bool)×dD):=do
 let g <- Ma5 ops o
 bY (match o.dst with|some d=>Sbj d E.ntmps|none=>true)
 let r <- Vau E mv mvs nv nb nr g o
 bY (r.upd.all fun x=>Aa4 E.ntmps nb nr x.1)
 .ret (g,r)
structure OpI where
 g:Option (aM×Bool)
 res:dD
 log:List Nat
 nb:Nat
 nr:Nat
 deriving Inhabited
def qE (t:Tr aU)(r:Nat):Nat->Bool
 |0=>true
 |n+1=>(t.get (kR r)).isNone&&qE t (r+1) n
def Ca8 (n:Nat):Pth->Bool
 |.path p=>p.all fun x=>bG n x.1
 |.suf _ x=>bG n x
 |_=>true
mutual
def aW.inScope (n:Nat):aW->Bool
 |.sc x=>bG n x
 |.su g x=>bG n x&&bG n g.1
 |.sn _ p _ x=>bG n x&&Ca8 n p
 |.pe l _ i _=>l.inScope n&&bG n i
 |.rp _ _ x=>bG n x
 |.clo _ l=>dE n l
 |_=>true
def dE (n:Nat):List aW->Bool
 |[]=>true
 |a::r=>a.inScope n&&dE n r
end
def Cao (n:Nat):SV->Bool
 |.dead=>true
 |.one l=>l.inScope n
 |.agg ls=>dE n ls
 |.tup vs=>vs.all fun v=>dE n v.2
def eP (n:Nat):aU->Bool
 |.slot g v=>sH n g&&Cao n v
 |.box _ ls=>dE n ls
 |.root x _ _ _=>bG n x
def Db8 (s:St)(g:Option (aM×Bool))(r:dD):Bool :=
 (s.tr.get (kB s.nb)).isNone&&qE s.tr s.nr dM&&sH s.nv g&&fP s.nv r.lets&&r.upd.all fun x=>eP (s.nv+bT r.lets) x.2
def Ibs:List (Nat×aU)->Nat->Nat
 |[],n=>n
 |x::r,n=>Ibs r (bif Nat.beq (x.1 % 3) 2&&Nat.ble n (x.1 / 3) then x.1 / 3+1 else n)
def Tai (draw:Bool)(n:Nat)(u:List (Nat×aU)):Nat:=bif draw then n+dM else Ibs u n
def Oap (t:Tr aU)(lo:Nat):Nat->Nat
 |0=>lo
 |n+1=>bif (t.get (kR (lo+n))).isNone then Oap t lo n else lo+n+1
def trimS (draw:Bool)(lo:Nat)(s:St):St:=bif draw&&Nat.ble lo s.nr then { s with nr:=Oap s.tr lo (s.nr-lo) } else s
def Ob7 (l:List (Nat×Nat))(r i:Nat):Bool:=l.any fun p=>Nat.beq p.1 r&&Nat.beq p.2 i
def Xaw (E:Env)(draw:Bool)(rid:Nat)(ops:List Oper):Nat->List Oper->St->List OpI->Sum (List OpI×St) (Nat×St×List OpI)
 |_,[],s,acc=>.inl (acc.reverse,s)
 | i, o :: os, s, acc =>
  let fl:=Ob7 E.nomv rid i
  match (mW E ops (xor (!E.freezeEx) fl) (xor E.moveSn fl) s.nv s.nb s.nr o).run s.get with
  | some ((g, r), log) =>
   bif !(Db8 s g r) then .inr (i,s,acc) else Xaw E draw rid ops (i+1) os { (s.puts r.upd) with nv:=s.nv+bT r.lets,nb:=s.nb+1,nr:=Tai draw s.nr r.upd } ({ g,res:=r,log,nb:=s.nb,nr:=s.nr }::acc)
  |none=>.inr (i,s,acc)
def Bal (acc:List Nat):List Edge->Nat->Nat
 |[],m=>m
 |e::es,m=>Bal acc es (bif Region.binds .any e then (m ||| 2 ^ e.on) ||| acc.getD e.on 0 else m)
def waits:List Oper->List Nat->List Nat
 |[],acc=>acc
 |o::os,acc=>waits os (acc++[Bal acc o.after.toList 0])
def Day:List Oper->Nat->Bool
 |[],_=>true
 |o::os,i=>(o.after.toList.all fun e=>!(Region.binds .any e)||Sbj e.on i)&&Day os (i+1)
def Nau (a:OpI)(k:Nat):Bool:=bif Nat.beq (k % 3) 1 then Nat.beq (k / 3) a.nb else bif Nat.beq (k % 3) 2 then Nat.ble a.nr (k / 3)&&Sbj (k / 3) (a.nr+dM) else false
def uC (a b:OpI):Bool :=
 let wa:=a.res.upd.map (·.1)
 let wb:=b.res.upd.map (·.1)
 !(meets wa b.log)&&!(meets wa wb)&&!(meets a.log wb)&&!(wb.any (Nau a))
def Dan (a:OpI)(i:Nat):List OpI->List Nat->Bool
 |[],_=>true
 |b::bs,w::ws=>(Tbe w i||uC a b)&&Dan a i bs ws
 |_::_,[]=>false
def yX:List OpI->List Nat->Nat->Bool
 |[],_,_=>true
 |a::as,ws,i=>Dan a i as ws.tail&&yX as ws.tail (i+1)
def rF (g:Option (aM×Bool))(k:Tm St):List Step->Tm St
 |[]=>k
 |.prim p xs n::r=>.lt g p xs n (rF g k r)
 |.call f xs n olds::r=>.call g f xs n olds (rF g k r)
def Hav (k:Tm St):List OpI->Tm St
 |[]=>k
 |a::r=>rF a.g (Hav k r) a.res.lets
def Mau (E:Env)(dbg:Bool)(rid:Nat)(ops:List Oper)(draw:Bool)(s:St):Tm St :=
 match Xaw E draw rid ops 0 ops s [] with
 | .inl (is, s') =>
  bif !draw||(Day ops 0&&yX is (waits ops []) 0) then Hav (.leaf .fall [] (trimS draw s.nr s')) is
  else bif dbg then .leaf (.exit (1000000+rid*1000+999)) [] s else .stuck
 |.inr (i,s',is)=>bif dbg then .leaf (.exit (1000000+rid*1000+i)) [] s' else .stuck
def Zak:Operand->Nat
 |.tmp t=>2 ^ t
 |_=>0
def Db6 (o:Oper):Nat:=o.op.operands.toList.foldl (fun m x=>m ||| Zak x) 0
def Zav:List Oper->Nat->Nat
 |[],l=>l
 | o :: os, l =>
  let m:=Zav os l
  let m:=match o.dst,o.guard with
   |some d,none=>bif Tbe m d then m-2 ^ d else m
   |_,_=>m
  m ||| Db6 o
def Ua2:List (Nat×Nat)->Nat->Nat
 |[],_=>0
 |(i,m)::r,j=>bif Nat.beq i j then m else Ua2 r j
def Jay:Code->List (Nat×Nat)->Nat->Nat->Nat
 |.region _ ops _,_,_,l=>Zav ops.toList l
 |.seq a b,ex,rb,l=>Jay a ex rb (Jay b ex rb l)
 |.cond c a b,ex,rb,l=>Zak c ||| Jay a ex rb l ||| Jay b ex rb l
 |.block id b,ex,rb,l=>Jay b ((id,l)::ex) rb l
 |.loop b,ex,rb,_=>Jay b ex rb (Jay b ex rb (Jay b ex rb 0))
 |.exit id,ex,_,_=>Ua2 ex id
 |.ret,_,rb,_=>rb
 |_,_,_,l=>l
inductive Form where
 |sc
 |nil (z:Nat)
 |ex (m:Nat)
 |sn
 |pn
 |rp (z:Nat)
 |keep (l:aW)
 |alias (i:Nat)
 |dead
 deriving Inhabited
def Ka1:List (aM×Nat×Nat)->List (aM×Nat×Nat)->Bool
 |[],[]=>true
 |(a,b,c)::r,(a',b',c')::r'=>a.beq0 a'&&Nat.beq b b'&&Nat.beq c c'&&Ka1 r r'
 |_,_=>false
def Pth.beq0:Pth->Pth->Bool
 |.no,.no=>true
 |.view,.view=>true
 |.path p,.path q=>Ka1 p q
 |.suf a x,.suf b y=>Nat.beq a b&&x.beq0 y
 |_,_=>false
def zR:List (Nat×Nat)->List (Nat×Nat)->Bool
 |[],[]=>true
 |(a,b)::r,(a',b')::r'=>Nat.beq a a'&&Nat.beq b b'&&zR r r'
 |_,_=>false
mutual
def aW.beq0:aW->aW->Bool
 |.dead,.dead=>true
 |.sc x,.sc y=>x.beq0 y
 |.su g x,.su h y=>g.1.beq0 h.1&&(g.2==h.2)&&x.beq0 y
 |.ex r,.ex r'=>Nat.beq r r'
 |.sn d p n x,.sn d' p' n' x'=>zR d d'&&p.beq0 p'&&(n==n')&&x.beq0 x'
 |.px b o,.px b' o'=>Nat.beq b b'&&Nat.beq o o'
 |.pe l s i o,.pe l' s' i' o'=>l.beq0 l'&&Nat.beq s s'&&i.beq0 i'&&Nat.beq o o'
 |.rp d s x,.rp d' s' x'=>zR d d'&&Nat.beq s s'&&x.beq0 x'
 |.pn,.pn=>true
 |.clo f l,.clo f' l'=>Nat.beq f f'&&vJ l l'
 |_,_=>false
def vJ:List aW->List aW->Bool
 |[],[]=>true
 |a::r,b::s=>a.beq0 b&&vJ r s
 |_,_=>false
end
def Ca1 (a b:RSt):Bool:=decide (a=b)
def Uaa (nv:Nat)(r:Nat):List St->Bool
 |[]=>true
 | s :: rest => match s.get (kR r) with
  | some (.root x m v st) => bG nv x && rest.all fun s' => match s'.get (kR r) with
   |some (.root x' m' v' st')=>x.beq0 x'&&Nat.beq m m'&&Nat.beq v v'&&Ca1 st st'
   |_=>false
  |_=>false
mutual
def Dak:aW->List Nat
 |.ex r=>[r]
 |.sn d _ _ _=>d.map (·.1)
 |.rp d _ _=>d.map (·.1)
 |.pe l _ _ _=>Dak l
 |.clo _ l=>Iag l
 |_=>[]
def Iag:List aW->List Nat
 |[]=>[]
 |a::r=>Dak a++Iag r
end
def Abk (s:St):aW->Form
 |.sc _=>.sc
 | .ex r => match s.get (kR r) with
  |some (.root _ m _ .live)=>.ex m
  |some (.root _ _ _ .frozen)=>.sn
  |_=>.dead
 |.sn _ _ true (.c (.rows z []))=>.nil z
 | .sn d p _ _ => match p, d with
  | .view, [(r, k)] => match s.get (kR r) with
   |some (.root _ m v .live)=>bif Nat.beq v k then .ex m else .dead
   |some (.root _ _ _ .frozen)=>.sn
   |_=>.dead
  |_,_=>.sn
 |.pn=>.pn
 |.rp _ z _=>.rp z
 |.pe _ z _ o=>bif Nat.beq o 0 then .rp z else .dead
 |_=>.dead
def Nao:Form->Form->Form
 |.sc,.sc=>.sc
 |.nil z,.nil _=>.nil z
 |.nil _,.ex m=>.ex m
 |.ex m,.nil _=>.ex m
 |.ex m,.ex m'=>.ex (min m m')
 |.nil _,.sn=>.sn
 |.sn,.nil _=>.sn
 |.ex _,.sn=>.sn
 |.sn,.ex _=>.sn
 |.sn,.sn=>.sn
 |.pn,.pn=>.pn
 |.pn,.rp z=>.rp z
 |.rp z,.pn=>.rp z
 |.rp z,.rp _=>.rp z
 |_,_=>.dead
def zG (k j:Nat)(s:St):aW :=
 match s.get k with
 |some (.slot none v)=>(vZ v).getD j .dead
 |some (.box _ ls)=>ls.getD j .dead
 |_=>.dead
def Lb9 (nv k j:Nat)(sts:List St):Form :=
 match sts with
 |[]=>.dead
 | s :: rest =>
  let l:=zG k j s
  bif l.inScope nv&&rest.all (fun s'=>l.beq0 (zG k j s'))&&(Dak l).all (fun r=>Uaa nv r (s::rest)) then .keep l
  else rest.foldl (fun f s'=>Nao f (Abk s' (zG k j s'))) (Abk s l)
def Lb5:Form->Bool
 |.keep _=>true
 |_=>false
structure Pos where
 k:Nat
 j:Nat
 f:Form
 deriving Inhabited
def Xa4:Option aU->Option aU->Bool
 |some (.slot none (.one _)),some (.slot none (.one _))=>true
 |some (.slot none (.agg a)),some (.slot none (.agg b))=>Nat.beq a.length b.length
 |some (.box r a),some (.box r' b)=>(r==r')&&Nat.beq a.length b.length
 |_,_=>false
def Hby:Option aU->Nat
 |some (.slot none v)=>(vZ v).length
 |some (.box _ ls)=>ls.length
 |_=>0
def Gb6 (old:List Pos)(k j:Nat):Option Form:=(old.find? fun p=>Nat.beq p.k k&&Nat.beq p.j j).map (·.f)
def Fb1 (s:St)(k j:Nat):Option Nat :=
 match zG k j s with
 |.ex r=>some r
 |_=>none
def Lb6:Form->Bool
 |.ex _=>true
 |_=>false
def aliasOf (sts:List St)(k j:Nat):List Pos->Nat->Option Nat
 |[],_=>none
 | p :: ps, i =>
  bif Lb6 p.f&&sts.all fun s=>match Fb1 s k j,Fb1 s p.k p.j with
   |some r,some r'=>Nat.beq r r'
   |_,_=>false
  then some i else aliasOf sts k j ps (i+1)
def Zao:Form->Form
 |.alias _=>.ex 1000
 |f=>f
def Zae (nv:Nat)(sts:List St)(old:List Pos)(k:Nat):Nat->Nat->List Pos->List Pos
 |0,_,acc=>acc
 | n + 1, j, acc =>
  let f:=Lb9 nv k j sts
  let f:=match Gb6 old k j,f with
   | some f0, .keep l => match sts with
    |s::_=>Nao (Zao f0) (Abk s l)
    |[]=>.dead
   |some f0,f=>Nao (Zao f0) f
   |none,f=>f
  let f:=bif Lb6 f then (match aliasOf sts k j acc 0 with|some i=>.alias i|none=>f) else f
  Zae nv sts old k n (j+1) (bif Lb5 f then acc else acc++[⟨k,j,f⟩])
def Hbe (sts:List St)(k:Nat):Bool :=
 match sts with
 |s::rest=>rest.all fun s'=>Xa4 (s.get k) (s'.get k)&&(match s.get k with | some (.slot (some _) _)=>false | some (.slot _ (.tup _))=>false | some (.slot _ .dead)=>false | some _=>true | none=>false)
 |[]=>false
def Hbd (sts:List St)(k:Nat):Bool :=
 match sts with
 |[s]=>Xa4 (s.get k) (s.get k)
 |_=>Hbe sts k
def range (a:Nat):Nat->List Nat
 |0=>[]
 |n+1=>a::range (a+1) n
def Nai (E:Env)(nb:Nat)(live:Nat)(sts:List St):List Nat :=
 ((range E.ntmps E.ngh).filter fun t=>Hbd sts (kT t)).map kT++((range 0 E.ntmps).filter fun t=>Tbe live t&&Hbd sts (kT t)).map kT++((range 0 nb).filter fun b=>Hbd sts (kB b)).map kB
def Pay (nv:Nat)(sts:List St)(old:List Pos):List Nat->List Pos->List Pos
  |[],acc=>acc
  | k :: ks, acc => Pay nv sts old ks (match sts with
     |s::_=>Zae nv sts old k (Hby (s.get k)) 0 acc
     |[]=>acc)
def Fbt (nv:Nat)(sts:List St)(old:List Pos)(ks:List Nat):List Pos:=Pay nv sts old ks []
def Gbr (c:aU)(j:Nat)(l:aW):aU :=
 match c with
 |.slot g (.one _)=>.slot g (match l with | .dead=>.dead | l=>.one l)
 |.slot g (.agg ls)=>.slot g (.agg (ls.set j l))
 |.box ro ls=>.box ro (ls.set j l)
 |c=>c
def lL (nv nr:Nat):List Pos->Nat->St->St
 |[],_,s=>s
 | p :: ps, i, s =>
  let put (l:aW) (s:St):St:=match s.get p.k with
   |some c=>s.put p.k (some (Gbr c p.j l))
   |none=>s
  match p.f with
  |.sc=>lL nv nr ps (i+1) (put (.sc (.v (nv+i))) s)
  |.ex m=>lL nv nr ps (i+1) ((put (.ex (nr+i)) s).put (kR (nr+i)) (some (.root (.v (nv+i)) m 0 .live)))
  |.sn=>lL nv nr ps (i+1) (put (.sn [] .no false (.v (nv+i))) s)
  |.nil z=>lL nv nr ps (i+1) (put (.sn [] .no true (.v (nv+i))) s)
  |.rp z=>lL nv nr ps (i+1) (put (.rp [] z (.v (nv+i))) s)
  |.pn=>lL nv nr ps (i+1) (put .pn s)
  |.alias a=>lL nv nr ps (i+1) (put (.ex (nr+a)) s)
  |_=>lL nv nr ps (i+1) (put .dead s)
def Ebq (s:St)(k j:Nat):List Nat :=
 match zG k j s with
 |.ex r=>[r]
 |.sn [(r,_)] .view _ _=>[r]
 |_=>[]
def Qbh:Form->Bool
 |.sn=>true
 |.rp _=>true
 |_=>false
def Qbi:Form->Bool
 |.ex _=>true
 |.alias _=>true
 |_=>false
def Pau (nv:Nat)(plan:List Pos)(sts:List St):List Nat->St->St
 |[],s=>s
 | r :: rs, s =>
  let taken:=plan.any fun p=>Qbi p.f&&sts.any fun s'=>has (Ebq s' p.k p.j) r
  let froz:=plan.any fun p=>Qbh p.f&&sts.any fun s'=>has (Dak (zG p.k p.j s')) r
  let sameX:=match sts with
   | s0 :: rest => match s0.get (kR r) with
    | some (.root x m v st) => bG nv x && !(Ca1 st .gone) && rest.all fun s' => match s'.get (kR r) with
     |some (.root x' _ _ st')=>x.beq0 x'&&!(Ca1 st' .gone)
     |_=>false
    |_=>false
   |[]=>false
  let c:Option aU :=
   bif taken then some (.root (.c .hole) 0 0 .gone)
   else bif Uaa nv r sts&&!froz then (match sts with|s0::_=>s0.get (kR r)|[]=>none)
   else bif sameX then (match sts with|s0::_=>(match s0.get (kR r) with|some (.root x m v _)=>some (.root x m v .frozen)|c=>c)|[]=>none)
   else some (.root (.c .hole) 0 0 .gone)
  Pau nv plan sts rs (s.put (kR r) c)
def Ma9 (s:St):List Nat->Tr aU->Tr aU
 |[],t=>t
 |k::ks,t=>Ma9 s ks (t.set 16 k (s.get k))
def template (E:Env)(nv nb nr nr':Nat)(sts:List St)(keys:List Nat)(plan:List Pos):St :=
 match sts with
 |[]=>⟨.nil,nv,nb,nr,0⟩
 | s :: _ =>
  let s1:St:=⟨Ma9 s keys .nil,nv+plan.length,nb,nr'+plan.length,s.nt⟩
  lL nv nr' plan 0 (Pau nv plan sts (range 0 nr) s1)
def Pb3 (j:Nat)(l:aW):aU->Option aU
 |.slot none (.one _)=>bif Nat.beq j 0 then some (.slot none (.one l)) else none
 |.slot none (.agg ls)=>some (.slot none (.agg (ls.set j l)))
 |.box ro ls=>some (.box ro (ls.set j l))
 |_=>none
def putAt (k j:Nat)(l:aW)(s:St):St :=
 match (s.get k).bind (Pb3 j l) with
 |some c=>s.put k (some c)
 |none=>s
def Ma4 (E:Env)(p:Pos)(nr i:Nat)(s:St):Option (List Step×St×aM) :=
 let put (l:aW) (s:St):St:=putAt p.k p.j l s
 let rNew:=nr+i
 match p.f,zG p.k p.j s with
 |.sc,.sc x=>some ([],s,x)
 | .alias a, .ex r => match s.get (kR r) with
  |some (.root _ _ _ (.fwd r'))=>bif Nat.beq r' (nr+a) then some ([],put (.ex (nr+a)) s,.c .undef) else kX 5001
  |_=>kX 5002
 |.nil z,.sn [] .no true x=>some ([],s,x)
 | .ex m, .ex r => match s.get (kR r) with
  |some (.root x m' v .live)=>bif Nat.ble m m' then some ([],put (.ex rNew) (s.puts [(kR r,.root (.c .hole) 0 0 (.fwd rNew)),(kR rNew,.root x m 0 .live)]),x) else kX 5003
  |_=>kX 5004
 |.ex m,.sn [] _ true (.c (.rows z []))=>some ([],put (.ex rNew) (s.puts [(kR rNew,.root (.c (.rows z [])) m 0 .live)]),.c (.rows z []))
 | .ex m, .sn [(r, k)] .view _ x => match s.get (kR r) with
  |some (.root _ m' v .live)=>bif Nat.ble m m'&&Nat.beq v k then some ([],put (.ex rNew) (s.puts [(kR r,.root (.c .hole) 0 0 .gone),(kR rNew,.root x m 0 .live)]),x) else kX 5005
  |_=>kX 5006
 | .sn, l =>
  match ((do let s <- Aak l;let fr <- eY (s.deps.map (·.1));RdM.ret (s.x,fr):RdM (aM×List (Nat×aU)))).eval s.get with
  |some (x,fr)=>some ([],put (.sn [] .no false x) (s.puts fr),x)
  |none=>kX 5007
 |.rp z,.pn=>some ([],put (.rp [] z (.c (.rows z []))) s,.c (.rows z []))
 | .rp z, .rp deps z' x =>
  match ((do let d <- yQ deps;eY (d.map (·.1)):RdM (List (Nat×aU)))).eval s.get with
  |some fr=>some ([],put (.rp [] z x) (s.puts fr),x)
  |none=>kX 5008
 | .rp z, .pe l z' i 0 =>
  match ((do let s <- Aak l;let fr <- eY (s.deps.map (·.1));RdM.ret (s.x,fr):RdM (aM×List (Nat×aU)))).eval s.get with
  |some (x,fr)=>some ([.prim (.one z') [x,i] 1],{ (put (.rp [] z (.v s.nv)) (s.puts fr)) with nv:=s.nv+1 },.v s.nv)
  |none=>kX 5009
 |.pn,.pn=>some ([],s,.c .undef)
 |.dead,_=>some ([],s,.c .undef)
 |_,_=>kX (4000000+1000*p.k+p.j)
def kN (E:Env)(nr:Nat):List Pos->Nat->St->Option (List Step×St×List aM)
 |[],_,s=>some ([],s,[])
 | p :: ps, i, s => do
  let (l,s,x) <- Ma4 E p nr i s
  let (l',s,xs) <- kN E nr ps (i+1) s
  some (l++l',s,x::xs)
def iU (τ:St):List Nat->St->Option St
 |[],s=>some s
 | r :: rs, s =>
  match τ.get (kR r),s.get (kR r) with
  |some (.root _ _ _ .frozen),some (.root x m v .live)=>iU τ rs (s.put (kR r) (some (.root x m v .frozen)))
  |_,_=>iU τ rs s
def Oa1 (n:Nat)(xs:List aM):aM->aM
 |.v i=>bif Sbj i n then .v i else xs.getD (i-n) (.c .hole)
 |.c d=>.c d
def Qba (n:Nat)(xs:List aM):Pth->Pth
 |.path p=>.path (p.map fun x=>(Oa1 n xs x.1,x.2))
 |.suf sz lo=>.suf sz (Oa1 n xs lo)
 |p=>p
def Ta1 (nrT nrB r:Nat):Nat:=bif Nat.ble nrT r then nrB+(r-nrT) else r
mutual
def aW.sub (n:Nat)(xs:List aM)(nrT nrB:Nat):aW->aW
 |.sc x=>.sc (Oa1 n xs x)
 |.su g x=>.su (Oa1 n xs g.1,g.2) (Oa1 n xs x)
 |.ex r=>.ex (Ta1 nrT nrB r)
 |.sn d p e x=>.sn d (Qba n xs p) e (Oa1 n xs x)
 |.pe l s i o=>.pe (l.sub n xs nrT nrB) s (Oa1 n xs i) o
 |.rp d s x=>.rp d s (Oa1 n xs x)
 |.clo f l=>.clo f (iV n xs nrT nrB l)
 |l=>l
def iV (n:Nat)(xs:List aM)(nrT nrB:Nat):List aW->List aW
 |[]=>[]
 |a::r=>a.sub n xs nrT nrB::iV n xs nrT nrB r
end
def Aas (a b:aW):Bool :=
 match a with
 |.dead=>Oa3 b
 | .sn d .no false x => match b with
  |.sn d' _ _ x'=>zR d d'&&x.beq0 x'
  |_=>false
 |a=>a.beq0 b
def fM:List aW->List aW->Bool
 |[],[]=>true
 |a::r,b::s=>Aas a b&&fM r s
 |_,_=>false
def dN (n:Nat)(xs:List aM)(nrT nrB:Nat):Option aU->Option aU->Bool
 |none,_=>true
 |some (.slot none .dead),_=>true
 |some (.slot none (.one a)),some (.slot none (.one b))=>Aas (a.sub n xs nrT nrB) b
 |some (.slot none (.agg a)),some (.slot none (.agg b))=>fM (iV n xs nrT nrB a) b
 |some (.box r a),some (.box r' b)=>(r==r')&&fM (iV n xs nrT nrB a) b
 |some (.root x m v .gone),_=>true
 |some (.root x m v st),some (.root x' m' v' st')=>Ca1 st st'&&Nat.beq m m'&&Nat.beq v v'&&(Oa1 n xs x).beq0 x'
 |_,_=>false
def Dao (n:Nat)(xs:List aM)(nrT nrB:Nat)(τ s:St):List Nat->Bool
 |[]=>true
 |k::ks=>dN n xs nrT nrB (τ.get k) (s.get k)&&Dao n xs nrT nrB τ s ks
def Daq (n:Nat)(xs:List aM)(nrT nrB:Nat)(τ s:St):List Nat->Bool
 |[]=>true
 |r::rs=>dN n xs nrT nrB (τ.get (kR r)) (s.get (kR (Ta1 nrT nrB r)))&&Daq n xs nrT nrB τ s rs
def qA (E:Env)(n:Nat)(xs:List aM)(nr0 nrT nrB len:Nat)(τ s:St):Bool :=
 Dao n xs nrT nrB τ s ((range 0 (E.ntmps+E.ngh)).map kT++(range 0 τ.nb).map kB)&&Daq n xs nrT nrB τ s (range 0 nr0++range nrT len)
def coerce (E:Env)(n nr0 nrT:Nat)(plan:List Pos)(τ:St)(kind:Kind)(s:St):Option (Tm St):=do
 let (ls,s1,xs) <- kN E s.nr plan 0 { s with nr:=s.nr+plan.length }
 let s2 <- iU τ (range 0 nr0) s1
 bif qA E n xs nr0 nrT s.nr plan.length τ s2&&qE s.tr s.nr plan.length&&Nat.ble nr0 s.nr&&fP s.nv ls&&xs.all (bG (s.nv+bT ls)) then some (rF none (.leaf kind xs s2) ls) else kX 1
def Tm.no {β:Type}(f:Kind->Bool):Tm β->Bool
 |.leaf k _ _=>!(f k)
 |.stuck=>true
 |.lt _ _ _ _ k=>k.no f
 |.call _ _ _ _ _ k=>k.no f
 |.ite _ t e=>t.no f&&e.no f
 |.bind _ t k=>t.no f&&k.no f
 |.loop _ b=>b.no f
def sO:Kind->Bool
 |.fall=>true
 |_=>false
def Raf (id:Nat):Kind->Bool
 |.fall=>true
 |.exit j=>Nat.beq id j
 |_=>false
def rZ (id:Nat):Kind->Bool
 |.exit j=>Nat.beq id j
 |_=>false
def Naq (i:Nat):Kind->Bool
 |.yield j=>Nat.beq i j
 |_=>false
def Uaq:Kind->Bool
 |.cont=>true
 |_=>false
def Tm.falls:Tm St->List St
 |.leaf .fall _ s=>[s]
 |.leaf _ _ _=>[]
 |.stuck=>[]
 |.lt _ _ _ _ k=>k.falls
 |.call _ _ _ _ _ k=>k.falls
 |.ite _ t e=>t.falls++e.falls
 |.bind _ _ k=>k.falls
 |.loop _ _=>[]
def Tm.exits (id:Nat):Tm St->List St
 |.leaf (.exit j) _ s=>bif Nat.beq j id then [s] else []
 |.leaf _ _ _=>[]
 |.stuck=>[]
 |.lt _ _ _ _ k=>k.exits id
 |.call _ _ _ _ _ k=>k.exits id
 |.ite _ t e=>t.exits id++e.exits id
 |.bind _ t k=>t.exits id++k.exits id
 |.loop _ b=>b.exits id
def Tm.tailExits (id:Nat):Tm St->List St
 |.leaf (.exit j) _ s=>bif Nat.beq j id then [s] else []
 |.leaf _ _ _=>[]
 |.stuck=>[]
 |.lt _ _ _ _ k=>k.tailExits id
 |.call _ _ _ _ _ k=>k.tailExits id
 |.ite _ t e=>t.tailExits id++e.tailExits id
 |.bind _ t k=>k.tailExits id
 |.loop _ b=>[]
def Tm.graft (f:St->Option (Tm St)):Tm St->Option (Tm St)
 |.leaf .fall _ s=>f s
 |.leaf k xs s=>some (.leaf k xs s)
 |.stuck=>some .stuck
 |.lt g p xs n k=>(k.graft f).map fun k=>.lt g p xs n k
 |.call g c xs n o k=>(k.graft f).map fun k=>.call g c xs n o k
 |.ite c t e=>(t.graft f).bind fun t=>(e.graft f).map fun e=>.ite c t e
 |.bind i t k=>bif t.no sO then (k.graft f).map fun k=>.bind i t k else none
 |.loop i b=>bif b.no sO then some (.loop i b) else none
def Tm.exitFall (id:Nat):Tm St->Option (Tm St)
 |.leaf (.exit j) xs s=>some (bif Nat.beq id j then .leaf .fall [] s else .leaf (.exit j) xs s)
 |.leaf k xs s=>some (.leaf k xs s)
 |.stuck=>some .stuck
 |.lt g p xs n k=>(k.exitFall id).map fun k=>.lt g p xs n k
 |.call g c xs n o k=>(k.exitFall id).map fun k=>.call g c xs n o k
 |.ite c t e=>(t.exitFall id).bind fun t=>(e.exitFall id).map fun e=>.ite c t e
 |.bind i t k=>bif t.no (rZ id) then (k.exitFall id).map fun k=>.bind i t k else none
 |.loop i b=>bif b.no (rZ id) then some (.loop i b) else none
def Tm.turn (out:Kind)(sel:Kind->Bool)(f:St->Option (Tm St)):Tm St->Option (Tm St)
 |.leaf k xs s=>bif sel k then f s else some (.leaf k xs s)
 |.stuck=>some .stuck
 |.lt g p xs n k=>(k.turn out sel f).map fun k=>.lt g p xs n k
 |.call g c xs n o k=>(k.turn out sel f).map fun k=>.call g c xs n o k
 |.ite c t e=>(t.turn out sel f).bind fun t=>(e.turn out sel f).map fun e=>.ite c t e
 | .bind i t k =>
  bif Naq i out then (bif t.no sel then (k.turn out sel f).map fun k=>.bind i t k else none)
  else (t.turn out sel f).bind fun t=>(k.turn out sel f).map fun k=>.bind i t k
 |.loop i b=>bif Uaq out then (bif b.no sel then some (.loop i b) else none) else (b.turn out sel f).map fun b=>.loop i b
def Lb0 (l:List St)(n:Nat):Nat:=l.foldl (fun m s=>max m s.nr) n
def Qay (τ:St)(nr0:Nat):List (Nat×Nat)->Bool
 |[]=>true
 | (r, k) :: d => Sbj r nr0 && (match τ.get (kR r) with
  |some (.root _ _ _ .gone)=>true
  |some (.root _ _ _ (.fwd _))=>true
  |some (.root _ _ v _)=>Nat.ble k v
  |_=>false)&&Qay τ nr0 d
mutual
def aW.wf (τ:St)(nr0:Nat):aW->Bool
 |.ex r=>(τ.get (kR r)).isSome
 |.sn d _ _ _=>Qay τ nr0 d
 |.px b _=>(τ.get (kB b)).isSome
 |.pe l _ _ _=>l.wf τ nr0
 |.rp d _ _=>Qay τ nr0 d
 |.clo _ l=>qM τ nr0 l
 |_=>true
def qM (τ:St)(nr0:Nat):List aW->Bool
 |[]=>true
 |a::r=>a.wf τ nr0&&qM τ nr0 r
end
def vP (τ:St)(nr0 k:Nat):Option aU->Bool
 |none=>true
 | some c => eP τ.nv c && (match c with
  |.slot none .dead=>Nat.beq (k % 3) 0
  |.slot none (.one l)=>Nat.beq (k % 3) 0&&l.wf τ nr0
  |.slot none (.agg ls)=>Nat.beq (k % 3) 0&&qM τ nr0 ls
  |.box _ ls=>Nat.beq (k % 3) 1&&qM τ nr0 ls
  |.root _ _ _ (.fwd _)=>false
  |.root _ _ _ _=>Nat.beq (k % 3) 2
  |_=>false)
def Haf (τ:St)(nr0:Nat):List Nat->Bool
 |[]=>true
 |k::ks=>vP τ nr0 k (τ.get k)&&Haf τ nr0 ks
def Uaj (τ:St):List Nat->Bool
 |[]=>true
 |k::ks=>(τ.get k).isNone&&Uaj τ ks
def Fap (E:Env)(s0:St)(nrT len:Nat)(τ:St):Bool :=
 Nat.beq τ.nv (s0.nv+len)&&Nat.ble E.ntmps τ.nt&&Nat.ble τ.nt (E.ntmps+E.ngh)&&Nat.beq τ.nr (nrT+len)&&Nat.ble s0.nr nrT &&
 Uaj τ ((range s0.nr (nrT-s0.nr)).map kR)&&Haf τ s0.nr ((range 0 τ.nt).map kT++(range 0 τ.nb).map kB++((range 0 s0.nr++range nrT len).map kR))
def join (E:Env)(live:Nat)(s0:St)(i:Nat)(sel:Kind->Bool)(ends:List St)(t:Tm St):Option (Tm St×St) :=
 let keys:=Nai E s0.nb live ends
 let plan:=Fbt s0.nv ends [] keys
 let nr':=Lb0 ends s0.nr
 let τ:=template E s0.nv s0.nb s0.nr nr' ends keys plan
 bif Fap E s0 nr' plan.length τ then (t.turn (.yield i) sel (coerce E s0.nv s0.nr nr' plan τ (.yield i))).map fun t=>(t,τ) else kX 6
def Sal (a b:List Pos):Bool :=
 match a,b with
 |[],[]=>true
 | p :: ps, q :: qs => Nat.beq p.k q.k && Nat.beq p.j q.j && (match p.f, q.f with
  |.sc,.sc=>true
  |.nil _,.nil _=>true
  |.ex m,.ex m'=>Nat.beq m m'
  |.sn,.sn=>true
  |.pn,.pn=>true
  |.rp _,.rp _=>true
  |.dead,.dead=>true
  |.alias i,.alias j=>Nat.beq i j
  |_,_=>false)&&Sal ps qs
 |_,_=>false
def Paj (τ:St)(ends:List St):List Nat->Bool
 |[]=>true
 | r :: rs => (match τ.get (kR r) with
  | some (.root _ m v st) => Ca1 st .gone || ends.all fun s => match s.get (kR r) with
   |some (.root _ m' v' st')=>(Nat.beq m m'&&Nat.beq v v'&&Ca1 st st')||(Ca1 st .frozen&&Ca1 st' .live)
   |_=>false
  |_=>true)&&Paj τ ends rs
def Iaf (E:Env)(live:Nat)(s:St)(body:St->Option (Tm St)):Nat->List Pos->List Nat->Nat->List St->Option (Tm St)
 |0,_,_,_,_=>kX 3
 | fuel + 1, plan, keys, nr', seen =>
  let τ:=template E s.nv s.nb s.nr nr' (s::seen) keys plan
  match body τ with
  |none=>none
  | some tb =>
   let ends:=tb.falls
   let keys':=Nai E s.nb live (s::ends)
   let plan':=Fbt s.nv (s::ends) plan keys'
   bif Sal plan plan'&&Nat.beq keys.length keys'.length&&Paj τ ends (range 0 s.nr) then do
    let (pre,s1,xs) <- kN E s.nr plan 0 { s with nr:=s.nr+plan.length }
    let s2 <- iU τ (range 0 s.nr) s1
    bif qA E s.nv xs s.nr nr' s.nr plan.length τ s2&&qE s.tr s.nr plan.length&&pre.isEmpty&&Fap E s nr' plan.length τ then do
     let tb <- tb.turn .cont sO (coerce E s.nv s.nr nr' plan τ .cont)
     some (.loop xs tb)
    else kX 2
   else Iaf E live s body fuel plan' keys' (Lb0 ends nr') ends
def Ab3:Operand->Option Bool
 |.const (.bool b)=>some b
 |_=>none
def Qak:Code->Nat
 |.region r _ _=>r
 |.seq a _=>Qak a
 |.cond _ a _=>Qak a
 |.block _ b=>Qak b
 |.loop b=>Qak b
 |_=>0
def hintOf:List (Nat×List (Nat×Nat×Nat×Nat)×List Nat×Nat×List Nat)->Nat->Option (List (Nat×Nat×Nat×Nat)×List Nat×Nat×List Nat)
 |[],_=>none
 |(k,h)::r,n=>bif Nat.beq k n then some h else hintOf r n
def Lb8 (c z:Nat):Form :=
 match c with
 |0=>.sc
 |1=>.nil z
 |2=>.ex z
 |3=>.sn
 |4=>.pn
 |5=>.rp z
 |6=>.alias z
 |_=>.dead
def Fbp (s:St):List Nat->St->St
 |[],t=>t
 | d :: ds, t => Fbp s ds (t.put (kR (d / 3)) (match d % 3 with
  |0=>some (.root (.c .hole) 0 0 .gone)
  |1=>s.get (kR (d / 3))
  | _ => match s.get (kR (d / 3)) with
   |some (.root x m v _)=>some (.root x m v .frozen)
   |c=>c))
def Naf (E:Env)(s:St)(body:St->Option (Tm St))(h:List (Nat×Nat×Nat×Nat)×List Nat×Nat×List Nat):Option (Tm St) :=
 let plan:List Pos:=h.1.map fun p=>⟨p.1,p.2.1,Lb8 p.2.2.1 p.2.2.2⟩
 let nr':=s.nr+h.2.2.1
 let τ:=lL s.nv nr' plan 0 (Fbp s h.2.2.2 ⟨Ma9 s h.2.1 .nil,s.nv+plan.length,s.nb,nr'+plan.length,s.nt⟩)
 match body τ with
 |none=>none
 | some tb => do
  let (pre,s1,xs) <- kN E s.nr plan 0 { s with nr:=s.nr+plan.length }
  let s2 <- iU τ (range 0 s.nr) s1
  bif qA E s.nv xs s.nr nr' s.nr plan.length τ s2&&qE s.tr s.nr plan.length&&pre.isEmpty&&Fap E s nr' plan.length τ then do
   let tb <- tb.turn .cont sO (coerce E s.nv s.nr nr' plan τ .cont)
   some (.loop xs tb)
  else kX 2
def sxC (E:Env)(dbg:Bool)(rb:Nat):Code->List (Nat×Nat)->Nat->St->Option (Tm St)
 |.skip,_,_,s=>some (.leaf .fall [] s)
 |.label _,_,_,s=>some (.leaf .fall [] s)
 |.ret,_,_,s=>some (.leaf .ret [] s)
 |.exit id,_,_,s=>some (.leaf (.exit id) [] s)
 |.region rid ops draw,_,_,s=>some (Mau E dbg rid ops.toList draw s)
 | .seq a b, ex, live, s => do
  let mid:=Jay b ex rb live
  let t <- sxC E dbg rb a ex mid s
  bif t.no sO then some t else
  match t.falls with
  |[_]=>t.graft (sxC E dbg rb b ex live)
  | ends => do
   let (t,τ) <- join E mid s 0 sO ends t
   let k <- sxC E dbg rb b ex live τ
   some (.bind 0 t k)
 | .cond c a b, ex, live, s =>
  match Ab3 c with
  |some true=>sxC E dbg rb a ex live s
  |some false=>sxC E dbg rb b ex live s
  |none =>
  match s.get (match c with|.tmp t=>kT t|_=>0),c with
  | some (.slot none (.one (.sc x))), .tmp t => bif !(bG s.nv x && Sbj t E.ntmps) then some .stuck else do
   let t <- sxC E dbg rb a ex live s
   let e <- sxC E dbg rb b ex live s
   some (.ite x t e)
  |_,_=>some .stuck
 | .block id b, ex, live, s => do
  let t <- sxC E dbg rb b ((id,live)::ex) live s
  bif t.no (rZ id) then some t else
  match t.falls,t.exits id,t.tailExits id with
  |[],[_],[_]=>t.exitFall id
  | fs, es, _ => do
   let (t,τ) <- join E live s (id+1) (Raf id) (fs++es) t
   some (.bind (id+1) t (.leaf .fall [] τ))
 | .loop b, ex, _, s =>
  let live':=Jay (.loop b) ex rb 0
  match hintOf E.hints (Qak b) with
  |some h=>Naf E s (sxC E dbg rb b ex live') h
  |none=>Iaf E live' s (sxC E dbg rb b ex live') 9 [] (Nai E s.nb live' [s]) s.nr []
 |.scope _,_,_,_=>some .stuck
 |.goto _,_,_,_=>some .stuck
 |.rangeFunc _ _ _ _,_,_,_=>some .stuck
 |.refuse _,_,_,_=>some .stuck
def jG (i nr:Nat):LS->aW×List (Nat×aU)×Nat×Nat
 |.sc=>(.sc (.v i),[],i+1,nr)
 |.fz nie=>(.sn [] .no nie (.v i),[],i+1,nr)
 |.mu m=>(.ex nr,[(kR nr,.root (.v i) m 0 .live)],i+1,nr+1)
 |.ow m=>(.ex nr,[(kR nr,.root (.v i) m 0 .live)],i+1,nr+1)
 |.px b=>(.px b 0,[],i,nr)
 |.clo f cs=>(.clo f (cs.map fun c=>match c with | .px b=>.px b 0 | _=>.dead),[],i,nr)
 |.rp z=>(.rp [] z (.v i),[],i+1,nr)
def eZ (i nr:Nat):List LS->List aW×List (Nat×aU)×Nat×Nat
 |[]=>([],[],i,nr)
 | s :: ss =>
  let (l,u,i,nr):=jG i nr s
  let (ls,us,i,nr):=eZ i nr ss
  (l::ls,u++us,i,nr)
def kF (t i nr:Nat):List (Bool×List LS)->List (Nat×aU)×Nat×Nat
 |[]=>([],i,nr)
 | (a, ss) :: ps =>
  let (ls,u,i,nr):=eZ i nr ss
  let (us,i,nr):=kF (t+1) i nr ps
  ((kT t,.slot none (match Ta0 a ls with|some v=>v|none=>.dead))::u++us,i,nr)
def iO (i nr:Nat):BS->aW×List (Nat×aU)×Nat×Nat
 |.sc=>(.sc (.v i),[],i+1,nr)
 |.fz nie=>(.sn [] .no nie (.v i),[],i+1,nr)
 |.ow m=>(.ex nr,[(kR nr,.root (.v i) m 0 .live)],i+1,nr+1)
 |.ot=>(.dead,[],i,nr)
def iK (i nr:Nat):List (BS×BO)->List aW×List (Nat×aU)×Nat×Nat
 |[]=>([],[],i,nr)
 | (s, _) :: ss =>
  let (l,u,i,nr):=iO i nr s
  let (ls,us,i,nr):=iK i nr ss
  (l::ls,u++us,i,nr)
def lT (b i nr:Nat):List (Bool×List (BS×BO))->List (Nat×aU)×Nat×Nat
 |[]=>([],i,nr)
 | (ro, cs) :: bs =>
  let (ls,u,i,nr):=iK i nr cs
  let (us,i,nr):=lT (b+1) i nr bs
  ((kB b,.box ro ls)::u++us,i,nr)
def fQ (r:Nat):List LS->List Nat
 |[]=>[]
 |.mu _::ss=>r::fQ (r+1) ss
 |.ow _::ss=>fQ (r+1) ss
 |_::ss=>fQ r ss
def vM (t:Nat):List aW->List (Nat×aU)
 |[]=>[]
 |l::ls=>(kT t,.slot none (.one l))::vM (t+1) ls
def Qab (s:Sig):List aW:=(fQ 0 (s.params.flatMap (·.2))).map aW.ex++(range 0 s.boxes.length).map fun b=>aW.px b 0
def pY (s:Sig):Nat:=(Qab s).length
def entry (s:Sig)(ntmps:Nat):St :=
 let (u,i,nr):=kF 0 0 0 s.params
 let (v,i,nr):=lT 0 i nr s.boxes
 (St.puts ⟨.nil,i,s.boxes.length,nr,ntmps+pY s⟩ (u++v++vM ntmps (Qab s)))
structure Fin where
 xs:List aM
 own:List (Nat×Nat×Nat)
 q:Nat
 frz:List Nat
 lets:List Step
 bxs:List Nat
def Bai (F:Fin)(r m:Nat)(x:aM):Fin:={ F with xs:=F.xs++[x],own:=F.own++[(r,2*F.q,m)],q:=F.q+1 }
def Uaz (F:Fin)(z:Nat):Fin:={ F with xs:=F.xs++[.c (.rows z [])],q:=F.q+1 }
def Qan (F:Fin)(m:Nat):aW->RdM Fin
 |.sn [] _ true (.c (.rows z []))=>.ret (Uaz F z)
 | .ex r => do
  match <- rdK (kR r) with
  | some (.root x m' v .live) => do
   bY (Nat.ble m m')
   .ret (Bai F r m x)
  |_=>.no
 | .sn [(r, k)] .view _ x => do
  match <- rdK (kR r) with
  | some (.root _ m' v .live) => do
   bY (Nat.ble m m'&&Nat.beq v k)
   .ret (Bai F r m x)
  |_=>.no
 |_=>.no
def Qap (F:Fin)(l:aW):RdM Fin:=do
 let s <- Aak l
 .ret { F with xs:=F.xs++[s.x],frz:=F.frz++s.deps.map (·.1) }
def Iax (nv:Nat)(F:Fin):LR->aW->RdM Fin
 |.sc,.sc x=>.ret { F with xs:=F.xs++[x] }
 |.fz,l=>Qap F l
 |.ow m,l=>Qan F m l
 |.rp z,.pn=>.ret { F with xs:=F.xs++[.c (.rows z [])] }
 | .rp z, .rp deps z' x => do
  let d <- yQ deps
  .ret { F with xs:=F.xs++[x],frz:=F.frz++d.map (·.1) }
 | .rp z, .pe l z' i 0 => do
  let s <- Aak l
  .ret { F with xs:=F.xs++[.v (nv+bT F.lets)],frz:=F.frz++s.deps.map (·.1),lets:=F.lets++[.prim (.one z') [s.x,i] 1] }
 |_,_=>.no
def Fae (F:Fin):BO->aW->RdM Fin
 |.sc,.sc x=>.ret { F with xs:=F.xs++[x] }
 |.fz,l=>Qap F l
 |.ow m,l=>Qan F m l
 |.dead,l=>bif Oa3 l then .ret { F with xs:=F.xs++[.c .hole] } else .no
 |_,_=>.no
def jP:Fin->List BO->List aW->RdM Fin
 |F,[],[]=>.ret F
 | F, s :: ss, l :: ls => do
  let F <- Fae F s l
  jP F ss ls
 |_,_,_=>.no
def iX (nv:Nat):Fin->List LR->List aW->RdM Fin
 |F,[],[]=>.ret F
 | F, s :: ss, l :: ls => do
  let F <- (match s,l with
   | .bx cs, .px b 0 => do
    match <- rdK (kB b) with
    |some (.box false bs)=>jP { F with bxs:=F.bxs++[b] } cs bs
    |_=>.no
   |s,l=>Iax nv F s l)
  iX nv F ss ls
 |_,_,_=>.no
def sJ (E:Env)(nv:Nat):Fin->List (Bool×List LR)->List ResultVar->RdM Fin
 |F,[],[]=>.ret F
 | F, (a, ss) :: rs, .tmp t :: vs => do
  match <- rdK (kT t) with
  | some (.slot none v) => do
   bY (Sbj t E.ntmps)
   let ls <- qK (kP a v)
   let F <- iX nv F ss ls
   sJ E nv F rs vs
  |_=>.no
 | F, (a, ss) :: rs, .cell t ty :: vs => do
  let ti <- qK (E.ti ty)
  bY ((a==ti.agg)&&Nat.beq ss.length ti.size&&(ti.agg||Nat.beq ti.size 1)&&Sbj t E.ntmps)
  match <- rdK (kT t) with
  | some (.slot none (.one (.px b off))) => do
   match <- rdK (kB b) with
   | some (.box _ ls) => do
    let F <- iX nv F ss ((ls.drop off).take ti.size)
    sJ E nv F rs vs
   |_=>.no
  |_=>.no
 |_,_,_=>.no
def fG:List LS->List Nat
 |[]=>[]
 |.mu m::ss=>m::fG ss
 |_::ss=>fG ss
def Fa7 (t:Nat):Nat->List Nat->Fin->RdM Fin
 |_,[],F=>.ret F
 | j, d :: ds, F => do
  match <- rdK (kT (t+j)) with
  | some (.slot none (.one (.ex r))) => do
   match <- rdK (kR r) with
   | some (.root x m _ .live) => do
    bY (Nat.ble d m)
    Fa7 t (j+1) ds { F with xs:=F.xs++[x],own:=F.own++[(r,2*j+1,d)] }
   |_=>.no
  |_=>.no
def tZ (t:Nat):Fin->Nat->List (Bool×List (BS×BO))->RdM Fin
 |F,_,[]=>.ret F
 | F, b, (ro, cs) :: r => do
  bif ro then tZ t F (b+1) r else
  match <- rdK (kT (t+b)) with
  | some (.slot none (.one (.px b' 0))) => do
   bY (Nat.beq b' b)
   match <- rdK (kB b) with
   | some (.box false ls) => do
    let F <- jP F (cs.map (·.2)) ls
    tZ t F (b+1) r
   |_=>.no
  |_=>.no
def Fb0 (E:Env)(s:Sig)(results:List ResultVar)(nv:Nat):RdM Fin:=do
 let F <- sJ E nv ⟨[],[],0,[],[],[]⟩ s.results results
 let ms:=fG (s.params.flatMap (·.2))
 let F <- Fa7 E.ntmps 0 ms F
 tZ (E.ntmps+ms.length) F 0 s.boxes
def finish (E:Env)(s:Sig)(results:List ResultVar)(st:St):Option (Tm St) :=
 match (Fb0 E s results st.nv).eval st.get with
 | some F =>
  bif distinct (F.own.map (·.1))&&!(meets (F.own.map (·.1)) F.frz)&&!(F.bxs.any fun b=>Sbj b s.boxes.length)&&fP st.nv F.lets then
   some (rF none (.leaf .ret F.xs st) F.lets) else none
 |none=>none
def Fbn (E:Env)(dbg:Bool)(s:Sig)(body:Code)(live:Nat):Option (Tm St) :=
 let e:=entry s E.ntmps
 bif Haf e e.nr ((range 0 e.nt).map kT++(range 0 e.nb).map kB++(range 0 e.nr).map kR) then sxC E dbg live body [] live e else kX 7
def Gb4 (l:List ResultVar):Nat:=l.foldl (fun m r=>match r with|.tmp t=>m ||| 2 ^ t|.cell t _=>m ||| 2 ^ t) 0
def Pbf:Kind->Bool
 |.ret=>true
 |.fall=>true
 |_=>false
def Vav (E:Env)(s:Sig)(fn:Func):Option (Tm Unit) :=
 match fn.body with
 |none=>none
 | some c => bif !(Nat.ble s.params.length fn.ntmps) then none else do
  let E:={ E with ntmps:=fn.ntmps,ngh:=pY s }
  let t <- Fbn E false s c (Gb4 fn.results.toList)
  let t <- t.turn .ret Pbf fun st=>(match finish E s fn.results.toList st with|some t=>some t|none=>some .stuck)
  some t.strip
end Go.Proofs.YtdpfilpckndhcaaGreatDoor.Rf

namespace Go.Proofs.YtdpfilpckndhcaaGreatDoor.Rf
set_option linter.unusedVariables false
inductive Sc:Value->D->Prop
 |int (k:IntKind) (n:Int):Sc (.int k n) (.int k n)
 |bool (b:Bool):Sc (.bool b) (.bool b)
 |str (l:List UInt8):Sc (.string ⟨l.toArray⟩) (.str l)
inductive Rd (ok:Nat->Prop) (w:World):Value->D->Prop
 |sc {v:Value} {d:D} (h:Sc v d):Rd ok w v d
 |hole (v:Value) (h1:v.oneCell'=true):Rd ok w v .hole
 | rows (A : Option Addr) (a : Addr) (n c sz : Nat) (rs : List (List D)) (vs : Nat -> Nat -> Value)
   (hn:rs.length=n) (hc:n<=c) (hA:n=0\/A=some a) (hsz:∀ r∈rs,r.length=sz)
   (hcell:∀ i r,rs[i]?=some r->∀ j d,r[j]?=some d->ok a.block/\w.cell? (a.add (i*sz+j))=some (vs i j))
   (hrec:∀ i r,rs[i]?=some r->∀ j d,r[j]?=some d->Rd ok w (vs i j) d) :
   Rd ok w (.slice A n c) (.rows sz rs)
inductive Ow where
 |frz
 |slc (r:Nat) (p:List Nat)
 |box (b:Nat)
 |oth
 deriving DecidableEq
inductive Rp (own:Nat->Ow) (w:World) (r:Nat):List Nat->Nat->Value->D->Prop
 |sc {p:List Nat} {m:Nat} {v:Value} {d:D} (h:Sc v d):Rp own w r p m v d
 |hole {p:List Nat} {m:Nat} (v:Value) (h1:v.oneCell'=true):Rp own w r p m v .hole
 |fz {p:List Nat} {v:Value} {d:D} (h:Rd (fun b=>own b=.frz) w v d):Rp own w r p 0 v d
 | sl {p : List Nat} {m : Nat} (A : Option Addr) (a : Addr) (n c sz : Nat) (rs : List (List D)) (vs : Nat -> Nat -> Value)
   (hn:rs.length=n) (hc:n<=c) (hA:A=some a\/(A=none/\c=0)) (hsz:∀ r∈rs,r.length=sz)
   (hown:A=some a->a.spot=none/\own a.block=.slc r p/\∀ k,k<c*sz->∃ u,w.cell? (a.add k)=some u/\w.frozen? (a.add k)=false)
   (hcell:∀ i row,rs[i]?=some row->∀ j d,row[j]?=some d->w.cell? (a.add (i*sz+j))=some (vs i j))
   (hrec:∀ i row,rs[i]?=some row->∀ j d,row[j]?=some d->Rp own w r (p++[i*sz+j]) m (vs i j) d) :
   Rp own w r p (m+1) (.slice A n c) (.rows sz rs)
def Cae (own:Nat->Ow)(w:World)(r:Nat):List Nat->Value->List Nat->Value->Prop
 |_,v,[],u=>u=v
 |q,v,k::p,u=>∃ a n c u',v=.slice (some a) n c/\own a.block=.slc r q/\w.cell? (a.add k)=some u'/\Cae own w r (q++[k]) u' p u
theorem iH {w w':World}{a:Addr}(h:w'.heap[a.block]?=w.heap[a.block]?):w'.cell? a=w.cell? a:=by
 unfold World.cell?;rw[h]
theorem lY {w w':World}{a:Addr}(h:w'.heap[a.block]?=w.heap[a.block]?):w'.frozen? a=w.frozen? a:=by
 unfold World.frozen?;rw[h]
theorem add_block (a:Addr)(k:Nat):(a.add k).block=a.block:=by unfold Addr.add;split<;>rfl
theorem add_add (a:Addr)(j k:Nat):(a.add j).add k=a.add (j+k):=by
 unfold Addr.add
 by_cases hj:j=0<;>by_cases hk:k=0<;>simp_all<;>omega
theorem Rd.mono {ok ok':Nat->Prop}{w w':World}{v:Value}{d:D}(h:Rd ok w v d)
  (hf:∀ b,ok b->ok' b/\w'.heap[b]?=w.heap[b]?):Rd ok' w' v d:=by
 induction h with
 |sc h=>exact .sc h
 |hole v h1=>exact .hole v h1
 | rows A a n c sz rs vs hn hc hA hsz hcell hrec ih =>
  refine .rows A a n c sz rs vs hn hc hA hsz (fun i r hi j d hj=>?_) (fun i r hi j d hj=>ih i r hi j d hj)
  obtain⟨h1,h2⟩:=hcell i r hi j d hj
  obtain⟨h3,h4⟩:=hf _ h1
  exact⟨h3,(iH (w:=w) (w':=w') (by rw[add_block];exact h4)).trans h2⟩
theorem Rp.mono {own own':Nat->Ow}{w w':World}{r r':Nat}{q q':List Nat}{p:List Nat}{m:Nat}{v:Value}{d:D}(h:Rp own w r p m v d)
  (hz:∀ b,own b=.frz->own' b=.frz/\w'.heap[b]?=w.heap[b]?) :
  ∀ s,p=q++s->(∀ b t,own b=.slc r (q++t)->own' b=.slc r' (q'++t)/\w'.heap[b]?=w.heap[b]?)->Rp own' w' r' (q'++s) m v d:=by
 induction h with
 |sc h=>exact fun _ _ _=>.sc h
 |hole v h1=>exact fun _ _ _=>.hole v h1
 |fz h=>exact fun _ _ _=>.fz (h.mono hz)
 | sl A a n c sz rs vs hn hc hA hsz hown hcell hrec ih =>
  rename_i p m
  intro s hp hs
  refine .sl A a n c sz rs vs hn hc hA hsz (fun e=>?_) (fun i row hi j d hj=>?_) (fun i row hi j d hj=>?_)
  ·obtain⟨h1,h2,h3⟩:=hown e
   rw[hp]at h2
   obtain⟨h4,h5⟩:=hs _ _ h2
   refine⟨h1,h4,fun k hk=>?_⟩
   obtain⟨u,hu,hf⟩:=h3 k hk
   exact⟨u,(iH (w:=w) (w':=w') (by rw[add_block];exact h5)).trans hu,(lY (w:=w) (w':=w') (by rw[add_block];exact h5)).trans hf⟩
  ·rcases hA with e|⟨e,e'⟩
   ·obtain⟨h1,h2,h3⟩:=hown e
    rw[hp]at h2
    obtain⟨h4,h5⟩:=hs _ _ h2
    exact (iH (w:=w) (w':=w') (by rw[add_block];exact h5)).trans (hcell i row hi j d hj)
   ·exfalso
    have:i<rs.length:=by
     rcases Rbj i rs.length with h|h
     ·exact h
     ·simp[Sb4 h]at hi
    omega
  ·have:=ih i row hi j d hj (s++[i*sz+j]) (by rw[hp,Qb1]) hs
   rwa[<- Qb1]at this
theorem Rp.rd {own:Nat->Ow}{w:World}{r:Nat}{p:List Nat}{m:Nat}{v:Value}{d:D}(h:Rp own w r p m v d) :
  Rd (fun b=>own b=.frz\/∃ q,own b=.slc r q) w v d:=by
 induction h with
 |sc h=>exact .sc h
 |hole v h1=>exact .hole v h1
 |fz h=>exact h.mono fun b hb=>⟨.inl hb,rfl⟩
 | sl A a n c sz rs vs hn hc hA hsz hown hcell hrec ih =>
  refine .rows A a n c sz rs vs hn hc ?_ hsz (fun i row hi j d hj=>?_) ih
  ·rcases hA with e|⟨e,e'⟩
   ·exact .inr e
   ·exact .inl (by omega)
  ·refine⟨?_,hcell i row hi j d hj⟩
   rcases hA with e|⟨e,e'⟩
   ·exact .inr ⟨_,(hown e).2.1⟩
   ·exfalso
    have:i<rs.length:=by
     rcases Rbj i rs.length with h|h
     ·exact h
     ·simp[Sb4 h]at hi
    omega
theorem Rp.weaken {own own':Nat->Ow}{w:World}{r:Nat}{p:List Nat}{m:Nat}{v:Value}{d:D}(h:Rp own w r p m v d)
  (hz:∀ b,own b=.frz->own' b=.frz):∀ (m':Nat),m'<=m ->
  (∀ b t,own b=.slc r (p++t)->own' b=(if t.length<m' then .slc r (p++t) else .frz))->Rp own' w r p m' v d:=by
 induction h with
 |sc h=>exact fun _ _ _=>.sc h
 |hole v h1=>exact fun _ _ _=>.hole v h1
 | fz h =>
  intro m' hm hs
  obtain rfl:m'=0:=by omega
  exact .fz (h.mono fun b hb=>⟨hz b hb,rfl⟩)
 | sl A a n c sz rs vs hn hc hA hsz hown hcell hrec ih =>
  rename_i p m
  intro m' hm hs
  cases m' with
  | zero =>
   refine .fz (.rows A a n c sz rs vs hn hc ?_ hsz (fun i row hi j d hj=>?_) (fun i row hi j d hj=>?_))
   ·rcases hA with e|⟨e,e'⟩
    ·exact .inr e
    ·exact .inl (by omega)
   ·refine⟨?_,hcell i row hi j d hj⟩
    rcases hA with e|⟨e,e'⟩
    ·have:=hs a.block [] (by simpa using (hown e).2.1)
     simpa using this
    ·exfalso
     have:i<rs.length:=by
      rcases Rbj i rs.length with h|h
      ·exact h
      ·simp[Sb4 h]at hi
     omega
   ·have h1:=ih i row hi j d hj 0 (Nat.zero_le _) (fun b t hb=>by
     have:=hs b ([i*sz+j]++t) (by rw[<- Qb1];exact hb)
     simpa using this)
    generalize vs i j=u at h1
    cases h1 with
    |sc h=>exact .sc h
    |hole _ h1=>exact .hole _ h1
    |fz h=>exact h
  | succ m' =>
   refine .sl A a n c sz rs vs hn hc hA hsz (fun e=>?_) hcell (fun i row hi j d hj=>?_)
   ·obtain⟨h1,h2,h3⟩:=hown e
    refine⟨h1,?_,h3⟩
    have:=hs a.block [] (by simpa using h2)
    simpa using this
   ·refine ih i row hi j d hj m' (by omega) (fun b t hb=>?_)
    have:=hs b ([i*sz+j]++t) (by rw[<- Qb1];exact hb)
    simp only[List.length_append,List.length_singleton]at this
    rw[this,<- Qb1]
    by_cases ht:t.length<m'
    ·rw[if_pos ht,if_pos (by omega)]
    ·rw[if_neg ht,if_neg (by omega)]
theorem Sc.one {v:Value}{d:D}(h:Sc v d):v.oneCell'=true:=by cases h<;>rfl
theorem Rd.one {ok:Nat->Prop}{w:World}{v:Value}{d:D}(h:Rd ok w v d):v.oneCell'=true:=by
 cases h with
 |sc h=>exact h.one
 |hole _ h1=>exact h1
 |rows=>rfl
theorem Rp.one {own:Nat->Ow}{w:World}{r:Nat}{p:List Nat}{m:Nat}{v:Value}{d:D}(h:Rp own w r p m v d):v.oneCell'=true:=by
 cases h with
 |sc h=>exact h.one
 |hole _ h1=>exact h1
 |fz h=>exact h.one
 |sl=>rfl
structure Gh where
 own:Nat->Ow
 hdr:Nat->Value
 bx:Nat->Addr
def qY (σ:Nat->Option aU)(r k:Nat):Prop:=∃ x m st,σ (kR r)=some (.root x m k st)/\(st=.live\/st=.frozen)
def Ea6 (σ:Nat->Option aU)(r k m:Nat):Prop:=∃ x,σ (kR r)=some (.root x m k .live)
def lJ (σ:Nat->Option aU)(r k:Nat):Prop:=∃ x m ver st,σ (kR r)=some (.root x m ver st)/\(st=.live\/st=.frozen->k<=ver)
def allow (G:Gh)(deps:List (Nat×Nat))(b:Nat):Prop:=G.own b=.frz\/∃ r k p,(r,k)∈deps/\G.own b=.slc r p
def mO (ρ:List D)(x:aM):Nat:=match x.val ρ with
 |.int _ n=>n.toNat
 |_=>0
def bJ (ρ:List D)(p:List (aM×Nat×Nat)):List Nat:=p.map fun x=>mO ρ x.1*x.2.1+x.2.2
def Fb7 (h v:Value)(sz L:Nat):Prop:=∃ A n c,h=.slice A n c/\L<=n/\v=.slice (if c=L then A else A.map (·.add (L*sz))) (n-L) (c-L)
def Jal (σ:Nat->Option aU)(ρ:List D)(G:Gh)(w:World)(deps:List (Nat×Nat))(v:Value)(d:D):Pth->Prop
 |.no=>True
 |.view=>∀ r k m,deps=[(r,k)]->Ea6 σ r k m->Rp G.own w r [] m v d
 |.suf sz lo=>∀ r k m,deps=[(r,k)]->Ea6 σ r k m->Fb7 (G.hdr r) v sz (mO ρ lo)
 |.path p=>∀ r k m,deps=[(r,k)]->Ea6 σ r k m->p.length<=m/\Rp G.own w r (bJ ρ p) (m-p.length) v d/\Cae G.own w r [] (G.hdr r) (bJ ρ p) v
mutual
def aB (σ:Nat->Option aU)(ρ:List D)(G:Gh)(w:World):aW->Value->Prop
 |.dead,v=>v.oneCell'=true
 |.sc x,v=>Sc v (x.val ρ)
 |.su g x,v=>(Sc v (x.val ρ)\/(v=undef/\x.val ρ=.undef))/\(gOn ρ (some g)=true->Sc v (x.val ρ))
 |.ex r,v=>v=G.hdr r/\(σ (kR r)).isSome/\v.oneCell'=true
 | .sn deps p nie x, v => (v.oneCell' = true /\ ∀ z ∈ deps, lJ σ z.1 z.2) /\ ((∀ z ∈ deps, qY σ z.1 z.2) ->
   Rd (allow G deps) w v (x.val ρ)/\(nie=true->∀ z,x.val ρ=.rows z []->v=.slice none 0 0)/\Jal σ ρ G w deps v (x.val ρ) p)
 |.px b off,v=>v=.pointer (some ((G.bx b).add off))/\(σ (kB b)).isSome
 |.pe l sz i off,v=>∃ a n c k iv,aB σ ρ G w l (.slice (some a) n c)/\i.val ρ=.int k iv/\0<=iv/\iv.toNat<n/\v=.pointer (some (a.add (iv.toNat*sz+off)))
 | .rp deps sz x, v => (v.oneCell' = true /\ ∀ z ∈ deps, lJ σ z.1 z.2) /\ ((∀ z ∈ deps, qY σ z.1 z.2) ->
   (v=.pointer none/\∃ z,x.val ρ=.rows z []) \/
   ∃ a row,v=.pointer (some a)/\x.val ρ=.rows row.length [row]/\Rd (allow G deps) w (.slice (some a) 1 1) (.rows row.length [row]))
 |.pn,v=>v=.pointer none
 |.clo f caps,v=>∃ vs,v=.func (.func f) #[] vs.toArray/\aD σ ρ G w caps vs
def aD (σ:Nat->Option aU)(ρ:List D)(G:Gh)(w:World):List aW->List Value->Prop
 |[],vs=>vs=[]
 |l::ls,vs=>∃ u us,vs=u::us/\aB σ ρ G w l u/\aD σ ρ G w ls us
end
def jQ (σ:Nat->Option aU)(ρ:List D)(G:Gh)(w:World):List (Bool×List aW)->List Value->Prop
 |[],us=>us=[]
 |(a,ls)::r,us=>∃ u us' vs,us=u::us'/\aD σ ρ G w ls vs/\(if a=true then u=.agg vs.toArray else vs=[u])/\jQ σ ρ G w r us'
def dV (σ:Nat->Option aU)(ρ:List D)(G:Gh)(w:World):SV->Value->Prop
 |.dead,_=>True
 |.one l,v=>aB σ ρ G w l v
 |.agg ls,v=>∃ vs,v=.agg vs.toArray/\aD σ ρ G w ls vs
 |.tup ts,v=>∃ us,v=.tuple us.toArray/\jQ σ ρ G w ts us
def Cab (n:Nat)(a:Act)(gh:Nat->Value)(t:Nat):Value:=if t<n then a.tmps.getD t undef else gh (t-n)
def dJ (σ:Nat->Option aU)(ρ:List D)(G:Gh)(w:World)(r:Nat)(x:aM)(m:Nat):RSt->Prop
 |.live=>Rp G.own w r [] m (G.hdr r) (x.val ρ)
 |.frozen=>Rd (fun b=>G.own b=.frz) w (G.hdr r) (x.val ρ)/\∀ b p,G.own b≠.slc r p
 |.gone=>True
 |.fwd r'=>G.hdr r=G.hdr r'/\(σ (kR r')).isSome
def Lau (σ:Nat->Option aU)(ρ:List D)(G:Gh)(w:World)(b:Nat)(ro:Bool)(ls:List aW):Prop :=
 (G.bx b).spot=none/\G.own (G.bx b).block=(if ro=true then .oth else .box b) /\
 ∀ j l,ls[j]?=some l->∃ v,w.cell? ((G.bx b).add j)=some v/\w.frozen? ((G.bx b).add j)=false/\aB σ ρ G w l v
structure bU where
 w0:World
 own0:Nat->Ow
 gh:Nat->Value
 rng:Nat->Nat×Nat
structure oK (F:bU) (G:Gh) (w:World):Prop where
 os:w.os=F.w0.os
 tape:w.tape=F.w0.tape
 output:w.output=F.w0.output
 size:F.w0.heap.size<=w.heap.size
 keep:∀ b,b<F.w0.heap.size->F.own0 b=.frz\/F.own0 b=.oth->w.heap[b]?=F.w0.heap[b]?/\G.own b=F.own0 b
 boxes:∀ b j,b<F.w0.heap.size->F.own0 b=.box j->G.own b=.box j/\∃ c0 c1 e fr,F.w0.heap[b]?=some (.cells c0 e fr)/\w.heap[b]?=some (.cells c1 e fr)/\c1.size=c0.size /\
  ∀ k,k<(F.rng j).1\/(F.rng j).2<=k->c1[k]?=c0[k]?
 fresh:∀ b,w.heap.size<=b->G.own b=.frz
def Bbt (n:Nat)(gh:Nat->Value)(σ:Nat->Option aU)(ρ:List D)(G:Gh)(a:Act)(w:World):Nat->aU->Prop
 |k,.slot g v=>∃ t,k=kT t/\(gOn ρ g=true->dV σ ρ G w v (Cab n a gh t))
 |k,.box ro ls=>∃ b,k=kB b/\Lau σ ρ G w b ro ls
 |k,.root x m ver st=>∃ r,k=kR r/\(σ (kR r)).isSome/\dJ σ ρ G w r x m st
structure R (n:Nat) (F:bU) (σ:Nat->Option aU) (ρ:List D) (a:Act) (w:World) (G:Gh):Prop where
 tmps:a.tmps.size=n
 defers:a.defers=[]
 cont:∀ k c,σ k=some c->Bbt n F.gh σ ρ G a w k c
 frame:oK F G w
 rng:∀ b ls,σ (kB b)=some (.box false ls)->(G.bx b).block<F.w0.heap.size->F.own0 (G.bx b).block=.box b->F.rng b=((G.bx b).off,(G.bx b).off+ls.length)
theorem Lb3 {a b:Nat}(h:kT a=kT b):a=b:=by unfold kT at h;omega
theorem Fa2 {a b:Nat}(h:kB a=kB b):a=b:=by unfold kB at h;omega
theorem gD {a b:Nat}(h:kR a=kR b):a=b:=by unfold kR at h;omega
theorem oP {a b:Nat}:kT a≠kB b:=by unfold kT kB;omega
theorem jE {a b:Nat}:kT a≠kR b:=by unfold kT kR;omega
theorem gV {a b:Nat}:kB a≠kR b:=by unfold kB kR;omega
section
variable {n:Nat} {F:bU} {σ:Nat->Option aU} {ρ:List D} {a:Act} {w:World} {G:Gh}
theorem R.slot (h:R n F σ ρ a w G){t:Nat}{g:Option (aM×Bool)}{v:SV}(hk:σ (kT t)=some (.slot g v))(hg:gOn ρ g=true):dV σ ρ G w v (Cab n a F.gh t):=by
 obtain⟨t',e,h'⟩:=h.cont _ _ hk
 obtain rfl:=Lb3 e
 exact h' hg
theorem R.box (h:R n F σ ρ a w G){b:Nat}{ro:Bool}{ls:List aW}(hk:σ (kB b)=some (.box ro ls)):Lau σ ρ G w b ro ls:=by
 obtain⟨t',e,h'⟩:=h.cont _ _ hk
 obtain rfl:=Fa2 e
 exact h'
theorem R.root (h:R n F σ ρ a w G){r:Nat}{x:aM}{m ver:Nat}{st:RSt}(hk:σ (kR r)=some (.root x m ver st)):dJ σ ρ G w r x m st:=by
 obtain⟨t',e,_,h'⟩:=h.cont _ _ hk
 obtain rfl:=gD e
 exact h'
end
structure Fr (σ:Nat->Option aU) (G:Gh) (w:World) (σ':Nat->Option aU) (G':Gh) (w':World):Prop where
 frz:∀ b,G.own b=.frz->b<w.heap.size->G'.own b=.frz/\w'.heap[b]?=w.heap[b]?
 valid:∀ r k,lJ σ r k->qY σ' r k->qY σ r k
 known:∀ r k,lJ σ r k->lJ σ' r k
 slc:∀ r k b p,qY σ r k->qY σ' r k->G.own b=.slc r p->(G'.own b=.slc r p\/G'.own b=.frz)/\w'.heap[b]?=w.heap[b]?
 live:∀ r k m,lJ σ r k->Ea6 σ' r k m->Ea6 σ r k m/\∀ b p,G.own b=.slc r p->G'.own b=.slc r p
 hdr:∀ r,(σ (kR r)).isSome->G'.hdr r=G.hdr r
 bx:∀ b,(σ (kB b)).isSome->G'.bx b=G.bx b
 keep:∀ k,(σ k).isSome->(σ' k).isSome
 froz:∀ r x m k,σ (kR r)=some (.root x m k .frozen)->∀ b p,G'.own b=.slc r p->G.own b=.slc r p
theorem lJ.some {σ:Nat->Option aU}{r k:Nat}(h:lJ σ r k):(σ (kR r)).isSome:=by
 obtain⟨x,m,ver,st,e,_⟩:=h
 rw[e];rfl
theorem qY.known {σ:Nat->Option aU}{r k:Nat}(h:qY σ r k):lJ σ r k:=by
 obtain⟨x,m,st,e,_⟩:=h
 exact⟨x,m,k,st,e,fun _=>Nat.le_refl _⟩
theorem lJ.same {σ σ':Nat->Option aU}(h:∀ r,σ' (kR r)=σ (kR r)){r k:Nat}(hk:lJ σ r k):lJ σ' r k:=by
 obtain⟨x,m,ver,st,e,h1⟩:=hk
 exact⟨x,m,ver,st,by rw[h];exact e,h1⟩
theorem Ea6.valid {σ:Nat->Option aU}{r k m:Nat}(h:Ea6 σ r k m):qY σ r k:=by
 obtain⟨x,e⟩:=h
 exact⟨x,m,.live,e,.inl rfl⟩
theorem block_lt {w:World}{a:Addr}{v:Value}(h:w.cell? a=some v):a.block<w.heap.size:=by
 rcases Rbj a.block w.heap.size with h1|h1
 ·exact h1
 ·unfold World.cell? at h
  rw[Array.getElem?_eq_none h1]at h
  cases h
theorem Bbf {w:World}{a:Addr}{v:Value}(h:w.cell? a=some v):a.block<w.heap.size:=block_lt h
theorem Rd.mono' {ok ok':Nat->Prop}{w w':World}{v:Value}{d:D}(h:Rd ok w v d)
  (hf:∀ b,ok b->b<w.heap.size->ok' b/\w'.heap[b]?=w.heap[b]?):Rd ok' w' v d:=by
 induction h with
 |sc h=>exact .sc h
 |hole v h1=>exact .hole v h1
 | rows A a n c sz rs vs hn hc hA hsz hcell hrec ih =>
  refine .rows A a n c sz rs vs hn hc hA hsz (fun i r hi j d hj=>?_) (fun i r hi j d hj=>ih i r hi j d hj)
  obtain⟨h1,h2⟩:=hcell i r hi j d hj
  have hlt:=Bbf h2
  rw[add_block]at hlt
  obtain⟨h3,h4⟩:=hf _ h1 hlt
  exact⟨h3,(iH (w:=w) (w':=w') (by rw[add_block];exact h4)).trans h2⟩
theorem Rp.mono' {own own':Nat->Ow}{w w':World}{r r':Nat}{q q':List Nat}{p:List Nat}{m:Nat}{v:Value}{d:D}(h:Rp own w r p m v d)
  (hz:∀ b,own b=.frz->b<w.heap.size->own' b=.frz/\w'.heap[b]?=w.heap[b]?) :
  ∀ s,p=q++s->(∀ b t,own b=.slc r (q++t)->own' b=.slc r' (q'++t)/\w'.heap[b]?=w.heap[b]?)->Rp own' w' r' (q'++s) m v d:=by
 induction h with
 |sc h=>exact fun _ _ _=>.sc h
 |hole v h1=>exact fun _ _ _=>.hole v h1
 |fz h=>exact fun _ _ _=>.fz (h.mono' hz)
 | sl A a n c sz rs vs hn hc hA hsz hown hcell hrec ih =>
  rename_i p m
  intro s hp hs
  refine .sl A a n c sz rs vs hn hc hA hsz (fun e=>?_) (fun i row hi j d hj=>?_) (fun i row hi j d hj=>?_)
  ·obtain⟨h1,h2,h3⟩:=hown e
   rw[hp]at h2
   obtain⟨h4,h5⟩:=hs _ _ h2
   refine⟨h1,h4,fun k hk=>?_⟩
   obtain⟨u,hu,hf⟩:=h3 k hk
   exact⟨u,(iH (w:=w) (w':=w') (by rw[add_block];exact h5)).trans hu,(lY (w:=w) (w':=w') (by rw[add_block];exact h5)).trans hf⟩
  ·rcases hA with e|⟨e,e'⟩
   ·obtain⟨h1,h2,h3⟩:=hown e
    rw[hp]at h2
    obtain⟨h4,h5⟩:=hs _ _ h2
    exact (iH (w:=w) (w':=w') (by rw[add_block];exact h5)).trans (hcell i row hi j d hj)
   ·exfalso
    have:i<rs.length:=by
     rcases Rbj i rs.length with h|h
     ·exact h
     ·simp[Sb4 h]at hi
    omega
  ·have:=ih i row hi j d hj (s++[i*sz+j]) (by rw[hp,Qb1]) hs
   rwa[<- Qb1]at this
theorem Cae.mono {own own':Nat->Ow}{w w':World}{r r':Nat}:∀ (p q q':List Nat) (v u:Value),
  (∀ b t,own b=.slc r (q++t)->own' b=.slc r' (q'++t)/\w'.heap[b]?=w.heap[b]?)->Cae own w r q v p u->Cae own' w' r' q' v p u
 |[],_,_,_,_,_,h=>h
 | k :: p, q, q', v, u, hs, h => by
  obtain⟨a,n,c,u',rfl,ho,hc,hn⟩:=h
  obtain⟨h1,h2⟩:=hs a.block [] (by simpa using ho)
  refine⟨a,n,c,u',rfl,by simpa using h1,(iH (w:=w) (w':=w') (by rw[add_block];exact h2)).trans hc,?_⟩
  exact Cae.mono p (q++[k]) (q'++[k]) u' u (fun b t hb=>by
   have:=hs b (k::t) (by simpa using hb)
   simpa using this) hn
section
variable {σ σ':Nat->Option aU} {ρ:List D} {G G':Gh} {w w':World}
theorem Jal.mono (h:Fr σ G w σ' G' w'){deps:List (Nat×Nat)}(hex:∀ z∈deps,lJ σ z.1 z.2){v:Value}{d:D}{p:Pth}(hp:Jal σ ρ G w deps v d p):Jal σ' ρ G' w' deps v d p:=by
 cases p with
 |no=>trivial
 | view =>
  intro r k m e hl
  obtain⟨hl',ho⟩:=h.live r k m (hex (r,k) (by simp[e])) hl
  have:=(hp r k m e hl').mono' (q:=[]) (q':=[]) h.frz [] rfl (fun b t hb=>⟨ho b t hb,(h.slc r k b _ hl'.valid hl.valid hb).2⟩)
  simpa using this
 | suf sz lo =>
  intro r k m e hl
  obtain⟨hl',ho⟩:=h.live r k m (hex (r,k) (by simp[e])) hl
  rw[h.hdr r (hex (r,k) (by simp[e])).some]
  exact hp r k m e hl'
 | path p =>
  intro r k m e hl
  obtain⟨hl',ho⟩:=h.live r k m (hex (r,k) (by simp[e])) hl
  obtain⟨h1,h2,h3⟩:=hp r k m e hl'
  have hs:∀ b t,G.own b=.slc r ([]++t)->G'.own b=.slc r ([]++t)/\w'.heap[b]?=w.heap[b]?:=fun b t hb=>⟨ho b t hb,(h.slc r k b _ hl'.valid hl.valid hb).2⟩
  refine⟨h1,?_,?_⟩
  ·have:=h2.mono' (q:=[]) (q':=[]) h.frz _ rfl hs
   rw[List.nil_append]at this
   exact this
  ·rw[h.hdr r (hex (r,k) (by simp[e])).some]
   exact h3.mono _ _ _ _ _ hs
theorem allow.mono (h:Fr σ G w σ' G' w'){deps:List (Nat×Nat)}(hex:∀ z∈deps,lJ σ z.1 z.2)(hv:∀ z∈deps,qY σ' z.1 z.2){b:Nat}(hb:allow G deps b)(hlt:b<w.heap.size) :
  allow G' deps b/\w'.heap[b]?=w.heap[b]?:=by
 rcases hb with hb|⟨r,k,p,hm,hb⟩
 ·exact⟨.inl (h.frz b hb hlt).1,(h.frz b hb hlt).2⟩
 ·have hv':=hv (r,k) hm
  have:=h.slc r k b p (h.valid r k (hex (r,k) hm) hv') hv' hb
  exact⟨this.1.elim (fun e=>.inr ⟨r,k,p,hm,e⟩) .inl,this.2⟩
mutual
theorem aB.mono (h:Fr σ G w σ' G' w'):∀ (l:aW) (v:Value),aB σ ρ G w l v->aB σ' ρ G' w' l v
 |.dead,_,hl=>by simpa[aB] using hl
 |.sc x,v,hl=>by simpa[aB] using hl
 |.su g x,v,hl=>by simpa[aB] using hl
 | .ex r, v, hl => by
  simp only[aB]at hl ⊢
  exact⟨by rw[h.hdr r hl.2.1];exact hl.1,h.keep _ hl.2.1,hl.2.2⟩
 | .sn deps p nie x, v, hl => by
  simp only[aB]at hl ⊢
  refine⟨⟨hl.1.1,fun z hz=>h.known _ _ (hl.1.2 z hz)⟩,fun hv=>?_⟩
  obtain⟨h1,h2,h3⟩:=hl.2 (fun z hz=>h.valid _ _ (hl.1.2 z hz) (hv z hz))
  exact⟨h1.mono' fun b hb hlt=>allow.mono h hl.1.2 hv hb hlt,h2,h3.mono h hl.1.2⟩
 | .px b off, v, hl => by
  simp only[aB]at hl ⊢
  exact⟨by rw[h.bx b hl.2];exact hl.1,h.keep _ hl.2⟩
 | .pe l sz i off, v, hl => by
  simp only[aB]at hl ⊢
  obtain⟨a,n,c,k,iv,h1,h2⟩:=hl
  exact⟨a,n,c,k,iv,aB.mono h l _ h1,h2⟩
 | .rp deps sz x, v, hl => by
  simp only[aB]at hl ⊢
  refine⟨⟨hl.1.1,fun z hz=>h.known _ _ (hl.1.2 z hz)⟩,fun hv=>?_⟩
  rcases hl.2 (fun z hz=>h.valid _ _ (hl.1.2 z hz) (hv z hz)) with h1|⟨a,row,h1,h2,h3⟩
  ·exact .inl h1
  ·exact .inr ⟨a,row,h1,h2,h3.mono' fun b hb hlt=>allow.mono h hl.1.2 hv hb hlt⟩
 |.pn,v,hl=>by simpa[aB] using hl
 | .clo f caps, v, hl => by
  simp only[aB]at hl ⊢
  obtain⟨vs,h1,h2⟩:=hl
  exact⟨vs,h1,aD.mono h caps vs h2⟩
theorem aD.mono (h:Fr σ G w σ' G' w'):∀ (ls:List aW) (vs:List Value),aD σ ρ G w ls vs->aD σ' ρ G' w' ls vs
 |[],vs,hl=>by simpa[aD] using hl
 | l :: ls, vs, hl => by
  simp only[aD]at hl ⊢
  obtain⟨u,us,e,h1,h2⟩:=hl
  exact⟨u,us,e,aB.mono h l u h1,aD.mono h ls us h2⟩
end
theorem jQ.mono (h:Fr σ G w σ' G' w'):∀ (ts:List (Bool×List aW)) (us:List Value),jQ σ ρ G w ts us->jQ σ' ρ G' w' ts us
 |[],_,ht=>ht
 | (a, ls) :: r, us, ht => by
  obtain⟨u,us',vs,e,h1,h2,h3⟩:=ht
  exact⟨u,us',vs,e,aD.mono h ls vs h1,h2,jQ.mono h r us' h3⟩
theorem dV.mono (h:Fr σ G w σ' G' w'){v:SV}{u:Value}(hv:dV σ ρ G w v u):dV σ' ρ G' w' v u:=by
 cases v with
 |dead=>trivial
 |one l=>exact aB.mono h l u hv
 |agg ls=>obtain⟨vs,e,h1⟩:=hv;exact⟨vs,e,aD.mono h ls vs h1⟩
 |tup ts=>obtain⟨us,e,h1⟩:=hv;exact⟨us,e,jQ.mono h ts us h1⟩
end
def Ta8 (σ:Nat->Option aU)(k:Nat)(c:aU):Nat->Option aU:=fun j=>if j=k then some c else σ j
def upds (σ:Nat->Option aU):List (Nat×aU)->Nat->Option aU
 |[]=>σ
 |(k,c)::r=>upds (Ta8 σ k c) r
theorem sW:∀ (u:List (Nat×aU)) (σ:Nat->Option aU) (k:Nat) (c:aU),upds σ u k=some c->(k,c)∈u\/((∀ c',(k,c')∉u)/\σ k=some c)
 |[],σ,k,c,h=>.inr ⟨by simp,h⟩
 | (k', c') :: r, σ, k, c, h => by
  rcases sW r (Ta8 σ k' c') k c h with h1|⟨h1,h2⟩
  ·exact .inl (Qb2 _ h1)
  ·unfold Ta8 at h2
   split at h2
   ·rename_i e
    obtain rfl:=Option.some.inj h2
    exact .inl (by rw[e];exact Qb7)
   ·rename_i e
    refine .inr ⟨fun c'' hc=>?_,h2⟩
    rcases List.mem_cons.1 hc with h3|h3
    ·exact e (Prod.mk.inj h3).1
    ·exact h1 _ h3
theorem fV:∀ (u:List (Nat×aU)) (σ:Nat->Option aU) (k:Nat),(∀ c,(k,c)∉u)->upds σ u k=σ k
 |[],_,_,_=>rfl
 | (k', c') :: r, σ, k, h => by
  rw[upds,fV r _ k fun c hc=>h c (Qb2 _ hc)]
  unfold Ta8
  rw[if_neg]
  intro e
  exact h c' (by rw[e];exact Qb7)
theorem fI:∀ (u:List (Nat×aU)) (σ:Nat->Option aU) (k:Nat),(σ k).isSome\/(∃ c,(k,c)∈u)->(upds σ u k).isSome
 | [], σ, k, h => by
  rcases h with h|⟨c,hc⟩
  ·exact h
  ·simp at hc
 | (k', c') :: r, σ, k, h => by
  refine fI r _ k ?_
  unfold Ta8
  rcases h with h|⟨c,hc⟩
  ·exact .inl (by split<;>simp_all)
  ·rcases List.mem_cons.1 hc with h1|h1
   ·exact .inl (by rw[if_pos (Prod.mk.inj h1).1];rfl)
   ·exact .inr ⟨c,h1⟩
section
variable {n:Nat} {F:bU} {σ:Nat->Option aU} {ρ:List D} {a a':Act} {w w':World} {G G':Gh}
theorem R.upd (h:R n F σ ρ a w G)(u:List (Nat×aU))(hfr:Fr σ G w (upds σ u) G' w')(hsz:a'.tmps.size=n)(hd:a'.defers=[])
  (hF:oK F G' w')
  (htm:∀ t,(∀ c,(kT t,c)∉u)->Cab n a' F.gh t=Cab n a F.gh t)
  (hbx:∀ b ro ls,σ (kB b)=some (.box ro ls)->(∀ c,(kB b,c)∉u)->G'.own (G.bx b).block=G.own (G.bx b).block/\w'.heap[(G.bx b).block]?=w.heap[(G.bx b).block]?)
  (hrng:∀ b ls,(kB b,.box false ls)∈u->(G'.bx b).block<F.w0.heap.size->F.own0 (G'.bx b).block=.box b->F.rng b=((G'.bx b).off,(G'.bx b).off+ls.length))
  (hnew:∀ k c,(k,c)∈u->upds σ u k=some c->Bbt n F.gh (upds σ u) ρ G' a' w' k c):R n F (upds σ u) ρ a' w' G':=by
 refine⟨hsz,hd,fun k c hk=>?_,hF,fun b ls hk hb ho=>?_⟩
 ·rcases sW u σ k c hk with h1|⟨h1,h2⟩
  ·exact hnew k c h1 hk
  ·cases c with
   | slot g v =>
    obtain⟨t,rfl,hv⟩:=h.cont k _ h2
    refine⟨t,rfl,fun hg=>?_⟩
    rw[htm t h1]
    exact (hv hg).mono hfr
   | box ro ls =>
    obtain⟨b,rfl,h3,h4,h5⟩:=h.cont k _ h2
    obtain⟨h6,h7⟩:=hbx b ro ls h2 h1
    have e:G'.bx b=G.bx b:=hfr.bx b (by rw[h2];rfl)
    refine⟨b,rfl,by rw[e];exact h3,by rw[e,h6];exact h4,fun j l hj=>?_⟩
    obtain⟨v,h8,h9,h10⟩:=h5 j l hj
    rw[e]
    exact⟨v,(iH (w:=w) (w':=w') (by rw[add_block];exact h7)).trans h8,(lY (w:=w) (w':=w') (by rw[add_block];exact h7)).trans h9,aB.mono hfr l v h10⟩
   | root x m ver st =>
    obtain⟨r,rfl,h0,h3⟩:=h.cont k _ h2
    refine⟨r,rfl,hfr.keep _ h0,?_⟩
    have e:G'.hdr r=G.hdr r:=hfr.hdr r h0
    cases st with
    | live =>
     have hl':Ea6 (upds σ u) r ver m:=⟨x,hk⟩
     obtain⟨hl,ho⟩:=hfr.live r ver m ⟨x,m,ver,.live,h2,fun _=>Nat.le_refl _⟩ hl'
     have:=Rp.mono' (q:=[]) (q':=[]) h3 hfr.frz [] rfl (fun b t hb=>⟨ho b t hb,(hfr.slc r ver b _ hl.valid hl'.valid hb).2⟩)
     simp only[dJ]
     rw[e]
     simpa using this
    | frozen =>
     simp only[dJ]
     rw[e]
     exact⟨h3.1.mono' hfr.frz,fun b p hb=>h3.2 b p (hfr.froz r x m ver h2 b p hb)⟩
    |gone=>trivial
    | fwd r' =>
     obtain⟨h4,h5⟩:=h3
     exact⟨by rw[e,hfr.hdr r' h5];exact h4,hfr.keep _ h5⟩
 ·rcases sW u σ _ _ hk with h1|⟨h1,h2⟩
  ·exact hrng b ls h1 hb ho
  ·have e:G'.bx b=G.bx b:=hfr.bx b (by rw[h2];rfl)
   rw[e]at hb ho ⊢
   exact h.rng b ls h2 hb ho
theorem Ca7 (a:Act)(d:Option Tmp)(v:Value):(a.put d v).tmps.size=a.tmps.size:=by
 cases d<;>simp[Act.put]
theorem put_defers (a:Act)(d:Option Tmp)(v:Value):(a.put d v).defers=a.defers:=by
 cases d<;>simp[Act.put]
theorem Hai (n:Nat)(a:Act)(G:Nat->Value)(d t:Nat)(v:Value)(h:d≠t):Cab n (a.put (some d) v) G t=Cab n a G t:=by
 unfold Cab
 split
 ·simp[Act.put,Rb3,Array.getElem?_setIfInBounds,h]
 ·rfl
theorem qZ (n:Nat)(a:Act)(G:Nat->Value)(d:Nat)(v:Value)(h:d<n)(hs:a.tmps.size=n):Cab n (a.put (some d) v) G d=v:=by
 unfold Cab
 rw[if_pos h]
 simp[Act.put,Rb3,hs,h]
theorem Fr.same (σ:Nat->Option aU)(G:Gh)(w:World)(u:List (Nat×aU))(hu:∀ k c,(k,c)∈u->∃ t,k=kT t):Fr σ G w (upds σ u) G w:=by
 have hr:∀ r,upds σ u (kR r)=σ (kR r):=fun r=>fV _ _ _ fun c hc=>by obtain⟨t,e⟩:=hu _ _ hc;exact jE e.symm
 refine⟨fun b h _=>⟨h,rfl⟩,fun r k _ h=>?_,fun r k h=>?_,fun r k b p _ _ h=>⟨.inl h,rfl⟩,fun r k m _ h=>⟨?_,fun b p h=>h⟩,fun _ _=>rfl,fun _ _=>rfl,fun k h=>fI _ _ _ (.inl h),fun _ _ _ _ _ _ _ h=>h⟩
 ·obtain⟨x,m,st,e,h⟩:=h
  exact⟨x,m,st,by rw[<- hr];exact e,h⟩
 ·obtain⟨x,m,ver,st,e,h⟩:=h
  exact⟨x,m,ver,st,by rw[hr];exact e,h⟩
 ·obtain⟨x,e⟩:=h
  exact⟨x,by rw[<- hr];exact e⟩
def fB (o:Oper)(g:Option (aM×Bool))(v:SV):List (Nat×aU):=match o.dst with|some d=>[(kT d,.slot g v)]|none=>[]
theorem R.pure (h:R n F σ ρ a w G)(o:Oper)(hd:∀ d,o.dst=some d->d<n)(g:Option (aM×Bool))(sv:SV)(v:Value)
  (hv:gOn ρ g=true->dV σ ρ G w sv v):R n F (upds σ (fB o g sv)) ρ (a.put o.dst v) w G:=by
 have hfr:Fr σ G w (upds σ (fB o g sv)) G w:=Fr.same _ _ _ _ fun k c hk=>by
  unfold fB at hk
  split at hk
  ·rename_i d e
   simp only[Qb6,Prod.mk.injEq]at hk
   exact⟨d,hk.1⟩
  ·simp at hk
 refine h.upd _ hfr (by rw[Ca7];exact h.tmps) (by rw[put_defers];exact h.defers) h.frame (fun t ht=>?_) (fun _ _ _ _ _=>⟨rfl,rfl⟩) (fun b ls hb=>?_) (fun k c hk hk'=>?_)
 ·unfold fB at ht
  cases e:o.dst with
  |none=>rfl
  | some d =>
   rw[e]at ht
   exact Hai _ _ _ _ _ _ fun e'=>ht _ (by rw[e'];exact List.mem_singleton.2 rfl)
 ·unfold fB at hb
  split at hb
  ·simp only[Qb6,Prod.mk.injEq]at hb
   exact absurd hb.1.symm oP
  ·simp at hb
 ·have hk0:=hk
  unfold fB at hk
  cases e:o.dst with
  |none=>rw[e]at hk;simp at hk
  | some d =>
   rw[e]at hk
   simp only[Qb6,Prod.mk.injEq]at hk
   obtain⟨rfl,rfl⟩:=hk
   refine⟨d,rfl,fun hg=>?_⟩
   rw[qZ _ _ _ _ _ (hd d e) h.tmps]
   exact (hv hg).mono hfr
end
end Go.Proofs.YtdpfilpckndhcaaGreatDoor.Rf
