import Derived.Calls
import Derived.Laws.Sem
set_option linter.all false
open Array renaming getD_eq_getD_getElem? → Bck
open List renaming mem_singleton → Zb9, append_assoc → Aci, mem_cons → Acj, mem_cons_of_mem → Ack, replicate → Acm, mem_cons_self → Acs, getElem?_eq_none → Bc2
open Nat renaming lt_or_ge → Acy, blt → Bcx, testBit → Cc9, le_succ → Dcm
open Option renaming bind_eq_some_iff → Zb4, bind_some → Acf, map_some → Bcn
open Prod.mk renaming injEq → Ac0, inj → Cc0
namespace Go.Proofs.YtcbkmmhkccnamaaGreat.Rf
inductive D where
 |int (k:IntKind) (n:Int)
 |bool (b:Bool)
 |str (s:List UInt8)
 |rows (sz:Nat) (rs:List (List D))
 |undef
 |hole
 deriving Inhabited
inductive aM where
 |v (i:Nat)
 |c (d:D)
 deriving Inhabited
def aM.val (ρ:List D):aM->D
 |.v i=>ρ.getD i .undef
 |.c d=>d
def aM.ok (n:Nat):aM->Prop
 |.v i=>i<n
 |.c _=>True
theorem aM.val_append {n:Nat}{ρ gk:List D}{x:aM}(h:x.ok ρ.length):x.val (ρ++gk)=x.val ρ:=by
 cases x with
 |c d=>rfl
 | v i =>
  simp only[aM.ok]at h;simp[aM.val,List.getD_eq_getElem?_getD,List.getElem?_append_left h]
inductive aU where
 |bin (op:BinOp)
 |eqb (neg:Bool)
 |not | neg | inv
 |conv (k:IntKind)
 |len | slen
 |row (sz off:Nat) (ks:List Bool)
 |inb
 |set (sz off n:Nat)
 |app (sz bytes:Nat) (fl:Bool)
 |mk (sz n:Nat)
 |make (bytes:Nat) (zero:List D)
 |sub (sz:Nat) (fl:Bool)
 |ssub
 |pick
 |eqs (ks:List Nat)
 |min | max
 |bstr
 |sidx
 |sid
 |ne
 |emp
 |one (sz:Nat)
 |dep (m:Nat)
 |clr (sz:Nat)
 |id
 deriving Inhabited
def iB:Nat:=140737488355328
def Aa4 (op:BinOp)(k:IntKind)(a b:Int):Option D :=
 match op with
 |.add=>some (.int k (k.wrap (a+b)))
 |.sub=>some (.int k (k.wrap (a-b)))
 |.mul=>some (.int k (k.wrap (a*b)))
 |.quo=>if b=0 then none else some (.int k (k.wrap (a.tdiv b)))
 |.rem=>if b=0 then none else some (.int k (a.tmod b))
 |.and=>some (.int k (k.wrap (BitVec.ofInt k.bits a &&& BitVec.ofInt k.bits b).toNat))
 |.or=>some (.int k (k.wrap (BitVec.ofInt k.bits a ||| BitVec.ofInt k.bits b).toNat))
 |.xor=>some (.int k (k.wrap (BitVec.ofInt k.bits a ^^^ BitVec.ofInt k.bits b).toNat))
 |.andNot=>some (.int k (k.wrap (BitVec.ofInt k.bits a &&& ~~~ (BitVec.ofInt k.bits b)).toNat))
 |.eql=>some (.bool (a==b))
 |.neq=>some (.bool (a != b))
 |.lss=>some (.bool (a<b))
 |.leq=>some (.bool (a<=b))
 |.gtr=>some (.bool (a>b))
 |.geq=>some (.bool (a ≥ b))
 |_=>none
def Zat (op:BinOp)(k:IntKind)(a b:Int):Option D :=
 if b<0 then none else
 match op with
 |.shl=>some (.int k (k.wrap (a*2 ^ (min b.toNat k.bits))))
 |.shr=>some (.int k (a.fdiv (2 ^ (min b.toNat k.bits))))
 |_=>none
def Lb2 (op:BinOp)(a b:List UInt8):Option D :=
 match op with
 |.add=>if a.length+b.length<=4611686018427387904 then some (.str (a++b)) else none
 |.eql=>some (.bool (a==b))
 |.neq=>some (.bool (!(a==b)))
 |.lss=>some (.bool (Op.bytesLess a b))
 |.leq=>some (.bool (Op.bytesLess a b||a==b))
 |.gtr=>some (.bool (!(Op.bytesLess a b||a==b)))
 |.geq=>some (.bool (!(Op.bytesLess a b)))
 |_=>none
def Oa3 (op:BinOp):D->D->Option D
 | .int k a, .int k' b =>
  match op with
  |.shl | .shr=>Zat op k a b
  |_=>if k=k' then Aa4 op k a b else none
 |.str a,.str b=>Lb2 op a b
 |_,_=>none
def eqD:Nat->D->D->Option Bool
 |0,.int k a,.int k' b=>if k=k' then some (a==b) else none
 |1,.bool a,.bool b=>some (a==b)
 |2,.str a,.str b=>some (a==b)
 |_,_,_=>none
def Sah:List Nat->List D->List D->Option Bool
 |[],[],[]=>some true
 |k::ks,a::as,b::bs=>(eqD k a b).bind fun x=>if x then Sah ks as bs else some false
 |_,_,_=>none
def chunk (sz:Nat):Nat->List D->List (List D)
 |0,_=>[]
 |n+1,l=>l.take sz::chunk sz n (l.drop sz)
def bytesOf:List (List D)->Option (List UInt8)
 |[]=>some []
 |[.int .u8 n]::r=>(bytesOf r).map fun l=>UInt8.ofNat n.toNat::l
 |_=>none
def Oby (op:BinOp):D->D->Option D
 |.int k a,.int k' b=>if k=k' then some (.int k (if (match op with | .lss=>b<a | _=>b>a:Bool) then b else a)) else none
 |_,_=>none
def Oab (op:BinOp):D->List D->Option D
 |x,[]=>some x
 |x,y::r=>(Oby op x y).bind fun z=>Oab op z r
def D.isSc:D->Bool
 |.int _ _=>true
 |.bool _=>true
 |.str _=>true
 |_=>false
def pV:Nat->D->Bool
 |_,.hole=>true
 |0,d=>d.isSc
 |m+1,.rows _ rs=>rs.all fun r=>r.all fun d=>pV m d
 |_+1,d=>d.isSc
def Eak:List Bool->List D->Bool
 |[],_=>true
 |k::ks,d::ds=>(!k||d.isSc)&&Eak ks ds
 |_::_,[]=>false
def aU.run:aU->List D->Option (List D)
 |.bin op,[a,b]=>(Oa3 op a b).map fun d=>[d]
 |.eqb ng,[.bool a,.bool b]=>some [.bool (if ng then !(a==b) else a==b)]
 |.not,[.bool b]=>some [.bool (!b)]
 |.neg,[.int k n]=>some [.int k (k.wrap (0-n))]
 |.inv,[.int k n]=>(Aa4 .xor k (if k.signed then -1 else k.max) n).map fun d=>[d]
 |.conv k,[.int _ n]=>some [.int k (k.wrap n)]
 |.len,[.rows _ rs]=>some [.int .i64 rs.length]
 |.slen,[.str s]=>some [.int .i64 s.length]
 | .row sz off ks, [.rows pz rs, .int _ i] =>
  if pz=sz/\0<=i then match rs[i.toNat]? with
   |some r=>if off+ks.length<=r.length/\Eak ks (r.drop off)=true then some ((r.drop off).take ks.length) else none
   |none=>none
  else none
 |.inb,[.rows _ rs,.int _ i]=>if 0<=i/\i<rs.length then some [] else none
 | .set sz off n, .rows pz rs :: .int _ i :: vs =>
  if pz=sz/\0<=i then match rs[i.toNat]? with
   |some r=>if off+n<=r.length/\vs.length=n then some [.rows sz (rs.set i.toNat (r.take off++vs++r.drop (off+n)))] else none
   |none=>none
  else none
 |.app sz bytes fl,[.rows pz a,.rows sz'' b]=>if pz=sz/\sz''=sz/\(!fl||(a++b).all fun r=>r.all D.isSc)=true/\(a.length+b.length)*bytes<=iB then some [.rows sz (a++b)] else none
 |.mk sz n,vs=>if vs.length=n*sz then some [.rows sz (chunk sz n vs)] else none
 |.make bytes zero,[.int _ n]=>if 0<=n/\n.toNat*bytes<=iB then some [.rows zero.length (Acm n.toNat zero)] else none
 |.sub sz fl,[.rows pz rs,.int _ lo,.int _ hi]=>if pz=sz/\(!fl||rs.all fun r=>r.all D.isSc)=true/\0<=lo/\lo<=hi/\hi<=rs.length then some [.rows sz ((rs.take hi.toNat).drop lo.toNat)] else none
 |.ssub,[.str s,.int _ lo,.int _ hi]=>if 0<=lo/\lo<=hi/\hi<=s.length then some [.str ((s.take hi.toNat).drop lo.toNat)] else none
 |.pick,[.bool c,a,b]=>some [if c then a else b]
 |.eqs ks,vs=>(Sah ks (vs.take ks.length) (vs.drop ks.length)).map fun b=>[.bool b]
 |.min,x::r=>(Oab .lss x r).map fun d=>[d]
 |.max,x::r=>(Oab .gtr x r).map fun d=>[d]
 |.bstr,[.rows _ rs]=>(bytesOf rs).map fun l=>[.str l]
 | .sidx, [.str s, .int _ i] => if 0 <= i then match s[i.toNat]? with
   |some b=>some [.int .u8 b.toNat]
   |none=>none
  else none
 |.ne,[.rows _ rs]=>if rs.isEmpty then none else some []
 |.emp,[.rows _ rs]=>some [.bool rs.isEmpty]
 |.dep m,[d]=>if pV m d then some [] else none
 |.id,[a]=>some [a]
 |.clr sz,[.rows pz rs,.int _ i]=>if pz=sz/\0<=i then some [.rows sz (rs.take i.toNat++(rs.drop i.toNat).map fun r=>r.map fun _=>.hole)] else none
 |.sid,[.str s]=>some [.str s]
 | .one sz, [.rows pz rs, .int _ i] => if pz = sz /\ 0 <= i then match rs[i.toNat]? with
   |some r=>some [.rows sz [r]]
   |none=>none
  else none
 |_,_=>none
inductive Kind where
 |fall | exit (id:Nat) | ret | cont | yield (i:Nat)
 deriving DecidableEq,Inhabited
inductive Tm (β:Type) where
 |leaf (kind:Kind) (xs:List aM) (ext:β)
 |stuck
 |lt (g:Option (aM×Bool)) (p:aU) (xs:List aM) (n:Nat) (k:Tm β)
 |call (g:Option (aM×Bool)) (f:Nat) (xs:List aM) (n:Nat) (olds:List aM) (k:Tm β)
 |ite (c:aM) (t e:Tm β)
 |bind (i:Nat) (t k:Tm β)
 |loop (init:List aM) (body:Tm β)
 deriving Inhabited
structure Out (β:Type) where
 kind:Kind
 xs:List aM
 ext:β
 env:List D
def Out.vals {β:Type}(o:Out β):List D:=o.xs.map (·.val o.env)
def gOn (ρ:List D):Option (aM×Bool)->Bool
 |none=>true
 | some (x, w) => match x.val ρ with
  |.bool b=>b==w
  |_=>false
def iter {β:Type}:Nat->(List D->Option (Out β))->List D->Option (Out β)
 |0,_,_=>none
 |n+1,f,vs=>(f vs).bind fun o=>if o.kind=.cont then iter n f o.vals else some o
def runT {β:Type}(cf:Nat->List D->Option (List D))(fuel:Nat):Tm β->List D->Option (Out β)
 |.leaf k xs e,ρ=>some ⟨k,xs,e,ρ⟩
 |.stuck,_=>none
 | .lt g p xs n k, ρ =>
  if gOn ρ g then (p.run (xs.map (·.val ρ))).bind fun ds=>if ds.length=n then runT cf fuel k (ρ++ds) else none
  else runT cf fuel k (ρ++Acm n .undef)
 | .call g f xs n olds k, ρ =>
  if gOn ρ g then (cf f (xs.map (·.val ρ))).bind fun ds=>if ds.length=n then runT cf fuel k (ρ++ds) else none
  else runT cf fuel k (ρ++(Acm (n-olds.length) .undef++olds.map (·.val ρ)))
 | .ite c t e, ρ => match c.val ρ with
  |.bool true=>runT cf fuel t ρ
  |.bool false=>runT cf fuel e ρ
  |_=>none
 |.bind i t k,ρ=>(runT cf fuel t ρ).bind fun o=>if o.kind=.yield i then runT cf fuel k (ρ++o.vals) else some o
 |.loop init body,ρ=>iter fuel (fun vs=>runT cf fuel body (ρ++vs)) (init.map (·.val ρ))
inductive Ent where
 |tm (t:Tm Unit)
 |ext (f:List D->Option (List D))
 |none
def Jbz {β:Type}(o:Out β):Option (List D):=if o.kind=.ret then some o.vals else none
def kK (T:Nat->Ent):Nat->Nat->List D->Option (List D)
 |0,_,_=>none
 | n + 1, f, args => match T f with
  |.tm t=>(runT (kK T n) n t args).bind Jbz
  |.ext e=>e args
  |.none=>none
def Saj {α:Type}(a:Nat->Option α):Prop:=∀ n r,a n=some r->a (n+1)=some r
theorem Saj.le {α:Type}{a:Nat->Option α}(h:Saj a){n m:Nat}{r:α}(hn:n<=m)(hr:a n=some r):a m=some r:=by
 induction hn with
 |refl=>exact hr
 |step _ ih=>exact h _ _ ih
open Classical in
noncomputable def lim {α:Type}(a:Nat->Option α):Option α :=
 if h:∃ r n,a n=some r then some h.choose else none
theorem gK {α:Type}{a:Nat->Option α}(h:Saj a){r:α}:lim a=some r↔∃ n,a n=some r:=by
 unfold lim;constructor
 ·intro e
  split at e
  ·rename_i hx
   obtain⟨n,hn⟩:=hx.choose_spec;cases e;exact⟨n,hn⟩
  ·cases e
 ·rintro⟨n,hn⟩
  have hx:∃ r n,a n=some r:=⟨r,n,hn⟩;rw[dif_pos hx];obtain⟨m,hm⟩:=hx.choose_spec;have h1:=h.le (Nat.le_max_left n m) hn;have h2:=h.le (Nat.le_max_right n m) hm;rw[h1]at h2;exact h2.symm
theorem Gbn {α:Type}{a:Nat->Option α}(h:∀ n,a n=none):lim a=none:=by
 unfold lim;rw[dif_neg]
 rintro⟨r,n,hn⟩
 rw[h]at hn;cases hn
theorem gL {α:Type}(x:Option α):lim (fun _=>x)=x:=by
 cases x with
 |none=>exact Gbn fun _=>rfl
 |some r=>exact (gK (a:=fun _=>some r) fun _ _ h=>h).2 ⟨0,rfl⟩
theorem Saj.bind {α γ:Type}{a:Nat->Option α}{b:Nat->α->Option γ}(ha:Saj a)(hb:∀ x,Saj fun n=>b n x):Saj fun n=>(a n).bind (b n):=by
 intro n r h;simp only[Zb4]at h ⊢;obtain⟨x,hx,hr⟩:=h;exact⟨x,ha _ _ hx,hb x _ _ hr⟩
theorem Ga2 {α γ:Type}{a:Nat->Option α}{b:Nat->α->Option γ}(ha:Saj a)(hb:∀ x,Saj fun n=>b n x) :
  lim (fun n=>(a n).bind (b n))=(lim a).bind fun x=>lim fun n=>b n x:=by
 apply Option.ext;intro r;rw[gK (ha.bind hb)];simp only[Zb4];constructor
 ·rintro⟨n,x,hx,hr⟩
  exact⟨x,(gK ha).2 ⟨n,hx⟩,(gK (hb x)).2 ⟨n,hr⟩⟩
 ·rintro⟨x,hx,hr⟩
  obtain⟨n,hn⟩:=(gK ha).1 hx;obtain⟨m,hm⟩:=(gK (hb x)).1 hr;exact⟨max n m,x,ha.le (Nat.le_max_left ..) hn,(hb x).le (Nat.le_max_right ..) hm⟩
def Le {α γ:Type}(f g:α->Option γ):Prop:=∀ x r,f x=some r->g x=some r
theorem nD {β:Type}{f g:List D->Option (Out β)}(h:Le f g):∀ {n m:Nat},n<=m->Le (iter n f) (iter m g)
 |0,_,_,_,_,hr=>by cases hr
 |n+1,0,qa,_,_,_=>absurd qa (by omega)
 | n + 1, m + 1, qa, vs, r, hr => by
  simp only[iter,Zb4]at hr ⊢;obtain⟨o,ho,hr⟩:=hr;refine⟨o,h _ _ ho,?_⟩;split at hr
  ·rename_i hk
   rw[if_pos hk];exact nD h (by omega) _ _ hr
  ·rename_i hk
   rw[if_neg hk];exact hr
theorem Ha8 {β:Type}{cf cg:Nat->List D->Option (List D)}(h:∀ f,Le (cf f) (cg f)){n m:Nat}(qa:n<=m)(t:Tm β):Le (runT cf n t) (runT cg m t):=by
 induction t with
 |leaf=>exact fun _ _ h=>h
 |stuck=>exact fun _ _ h=>h
 | lt g p xs k' k ih =>
  intro ρ r hr;simp only[runT]at hr ⊢;split at hr
  ·rename_i hg
   rw[if_pos hg];simp only[Zb4]at hr ⊢;obtain⟨ds,hd,hr⟩:=hr;refine⟨ds,hd,?_⟩;split at hr
   ·rename_i hl;rw[if_pos hl];exact ih _ _ hr
   ·cases hr
  ·rename_i hg
   rw[if_neg hg];exact ih _ _ hr
 | call g f xs k' olds k ih =>
  intro ρ r hr;simp only[runT]at hr ⊢;split at hr
  ·rename_i hg
   rw[if_pos hg];simp only[Zb4]at hr ⊢;obtain⟨ds,hd,hr⟩:=hr;refine⟨ds,h _ _ _ hd,?_⟩;split at hr
   ·rename_i hl;rw[if_pos hl];exact ih _ _ hr
   ·cases hr
  ·rename_i hg
   rw[if_neg hg];exact ih _ _ hr
 | ite c t e iht ihe =>
  intro ρ r hr;simp only[runT]at hr ⊢;split at hr
  ·exact iht _ _ hr
  ·exact ihe _ _ hr
  ·cases hr
 | bind i t k iht ihk =>
  intro ρ r hr;simp only[runT,Zb4]at hr ⊢;obtain⟨o,ho,hr⟩:=hr;refine⟨o,iht _ _ ho,?_⟩;split at hr
  ·rename_i hk;rw[if_pos hk];exact ihk _ _ hr
  ·rename_i hk;rw[if_neg hk];exact hr
 | loop init body ih =>
  intro ρ r hr;simp only[runT]at hr ⊢;exact nD (fun vs r hr=>ih _ _ hr) qa _ _ hr
theorem Ea5 (T:Nat->Ent):∀ {n m:Nat},n<=m->∀ f,Le (kK T n f) (kK T m f)
 |0,_,_,_,_,_,hr=>by cases hr
 |n+1,0,qa,_,_,_,_=>absurd qa (by omega)
 | n + 1, m + 1, qa, f, args, r, hr => by
  simp only[kK]at hr ⊢;split at hr
  ·simp only[Zb4]at hr ⊢
   obtain⟨o,ho,hr⟩:=hr;exact⟨o,Ha8 (fun f=>Ea5 T (by omega) f) (by omega) _ _ _ ho,hr⟩
  ·exact hr
  ·cases hr
section
variable (T:Nat->Ent)
noncomputable def Fun (f:Nat)(args:List D):Option (List D):=lim fun n=>kK T n f args
noncomputable def Ev {β:Type}(t:Tm β)(ρ:List D):Option (Out β):=lim fun n=>runT (kK T n) n t ρ
noncomputable def Lp {β:Type}(body:Tm β)(ρ vs:List D):Option (Out β):=lim fun n=>iter n (fun vs=>runT (kK T n) n body (ρ++vs)) vs
variable {T}
theorem Pbg (f:Nat)(args:List D):Saj fun n=>kK T n f args:=fun n _ h=>Ea5 T (Dcm n) f _ _ h
theorem Ibf {β:Type}(t:Tm β)(ρ:List D):Saj fun n=>runT (kK T n) n t ρ:=fun n _ h=>Ha8 (fun f=>Ea5 T (Dcm n) f) (Dcm n) t _ _ h
theorem Zb3 {β:Type}(body:Tm β)(ρ vs:List D):Saj fun n=>iter n (fun vs=>runT (kK T n) n body (ρ++vs)) vs :=
 fun n _ h=>nD (fun vs r hr=>Ibf body _ n r hr) (Dcm n) _ _ h
theorem Haa {f:Nat}{args r:List D}:Fun T f args=some r↔∃ n,kK T n f args=some r:=gK (Pbg f args)
theorem Oav {β:Type}{t:Tm β}{ρ:List D}{o:Out β}:Ev T t ρ=some o↔∃ n,runT (kK T n) n t ρ=some o:=gK (Ibf t ρ)
theorem Lbe {β:Type}(k:Kind)(xs:List aM)(e:β)(ρ:List D):Ev T (.leaf k xs e) ρ=some ⟨k,xs,e,ρ⟩:=gL _
theorem Pbj {β:Type}(g:Option (aM×Bool))(p:aU)(xs:List aM)(n:Nat)(k:Tm β)(ρ:List D) :
  Ev T (.lt g p xs n k) ρ=if gOn ρ g then (p.run (xs.map (·.val ρ))).bind fun ds=>if ds.length=n then Ev T k (ρ++ds) else none
   else Ev T k (ρ++Acm n .undef):=by
 unfold Ev;simp only[runT];split
 ·rw[Ga2 (a:=fun _=>p.run _) (fun _ _ h=>h)
   (fun ds=>by split;exact Ibf k _;exact fun _ _ h=>h)]
  rw[gL];congr 1;funext ds;split
  ·rfl
  ·exact gL _
 ·rfl
theorem Dba {β:Type}(g:Option (aM×Bool))(f:Nat)(xs:List aM)(n:Nat)(olds:List aM)(k:Tm β)(ρ:List D) :
  Ev T (.call g f xs n olds k) ρ=if gOn ρ g then (Fun T f (xs.map (·.val ρ))).bind fun ds=>if ds.length=n then Ev T k (ρ++ds) else none
   else Ev T k (ρ++(Acm (n-olds.length) .undef++olds.map (·.val ρ))):=by
 unfold Ev;simp only[runT];split
 ·rw[Ga2 (a:=fun n=>kK T n f _) (Pbg f _)
   (fun ds=>by split;exact Ibf k _;exact fun _ _ h=>h)]
  rw[<- Fun];congr 1;funext ds;split
  ·rfl
  ·exact gL _
 ·rfl
theorem Pbk {β:Type}(c:aM)(t e:Tm β)(ρ:List D) :
  Ev T (.ite c t e) ρ=match c.val ρ with
   |.bool true=>Ev T t ρ
   |.bool false=>Ev T e ρ
   |_=>none:=by
 unfold Ev;simp only[runT];split
 ·rfl
 ·rfl
 ·exact gL _
theorem Lbf {β:Type}(i:Nat)(t k:Tm β)(ρ:List D) :
  Ev T (.bind i t k) ρ=(Ev T t ρ).bind fun o=>if o.kind=.yield i then Ev T k (ρ++o.vals) else some o:=by
 unfold Ev;simp only[runT];rw[Ga2 (a:=fun n=>runT (kK T n) n t ρ) (Ibf t ρ) (fun o=>by split;exact Ibf k _;exact fun _ _ h=>h)];congr 1;funext o;split
 ·rfl
 ·exact gL _
theorem Lbd {β:Type}(init:List aM)(body:Tm β)(ρ:List D):Ev T (.loop init body) ρ=Lp T body ρ (init.map (·.val ρ)):=rfl
theorem Lbc {β:Type}(body:Tm β)(ρ vs:List D) :
  Lp T body ρ vs=(Ev T body (ρ++vs)).bind fun o=>if o.kind=.cont then Lp T body ρ o.vals else some o:=by
 have hm:∀ vs,Saj fun n=>iter n (fun vs=>runT (kK T n) n body (ρ++vs)) vs:=fun vs=>Zb3 body ρ vs
 unfold Lp
 have e:∀ vs r,(lim fun n=>iter n (fun vs=>runT (kK T n) n body (ρ++vs)) vs)=some r↔((Ev T body (ρ++vs)).bind fun o=>if o.kind=.cont then (lim fun n=>iter n (fun vs=>runT (kK T n) n body (ρ++vs)) o.vals) else some o)=some r:=by
  intro vs r;rw[gK (hm vs)];simp only[Zb4];constructor
  ·rintro⟨n,hn⟩
   cases n with
   |zero=>cases hn
   | succ n =>
    simp only[iter,Zb4]at hn;obtain⟨o,ho,hr⟩:=hn;refine⟨o,Oav.2 ⟨n+1,ho⟩,?_⟩;split at hr
    ·rename_i hk
     rw[if_pos hk,gK (hm _)];exact⟨n+1,nD (fun _ _ h=>h) (Dcm n) _ _ hr⟩
    ·rename_i hk
     rw[if_neg hk];exact hr
  ·rintro⟨o,ho,hr⟩
   obtain⟨n,hn⟩:=Oav.1 ho;split at hr
   ·rename_i hk
    obtain⟨m,oS⟩:=(gK (hm _)).1 hr;refine⟨max n m+1,?_⟩;simp only[iter,Zb4];refine⟨o,(Ibf body (ρ++vs)).le (by omega) hn,?_⟩;rw[if_pos hk];exact nD (fun vs r h=>(Ibf body (ρ++vs)).le (by omega) h) (by omega) _ _ oS
   ·rename_i hk
    refine⟨n+1,?_⟩;simp only[iter,Zb4];exact⟨o,Ibf body _ _ _ hn,by rw[if_neg hk];exact hr⟩
 exact Option.ext (e vs)
theorem Pbf {f:Nat}{t:Tm Unit}(h:T f=.tm t)(args:List D):Fun T f args=(Ev T t args).bind Jbz:=by
 apply Option.ext;intro r;rw[Haa];simp only[Zb4];constructor
 ·rintro⟨n,hn⟩
  cases n with
  |zero=>cases hn
  | succ n =>
   simp only[kK,h,Zb4]at hn;obtain⟨o,ho,hr⟩:=hn;exact⟨o,Oav.2 ⟨n,ho⟩,hr⟩
 ·rintro⟨o,ho,hr⟩
  obtain⟨n,hn⟩:=Oav.1 ho;refine⟨n+1,?_⟩;simp only[kK,h,Zb4];exact⟨o,hn,hr⟩
theorem Oau {f:Nat}{e:List D->Option (List D)}(h:T f=.ext e)(args:List D):Fun T f args=e args:=by
 apply Option.ext;intro r;rw[Haa];constructor
 ·rintro⟨n,hn⟩
  cases n with
  |zero=>cases hn
  |succ n=>simpa[kK,h] using hn
 ·intro hr
  exact⟨1,by simpa[kK,h] using hr⟩
end
def Tm.strip {β:Type}:Tm β->Tm Unit
 |.leaf k xs _=>.leaf k xs ()
 |.stuck=>.stuck
 |.lt g p xs n k=>.lt g p xs n k.strip
 |.call g f xs n olds k=>.call g f xs n olds k.strip
 |.ite c t e=>.ite c t.strip e.strip
 |.bind i t k=>.bind i t.strip k.strip
 |.loop init body=>.loop init body.strip
def Out.strip {β:Type}(o:Out β):Out Unit:=⟨o.kind,o.xs,(),o.env⟩
theorem Out.strip_vals {β:Type}(o:Out β):o.strip.vals=o.vals:=rfl
theorem Mac {β:Type}{f:List D->Option (Out β)}{g:List D->Option (Out Unit)}(h:∀ vs,g vs=(f vs).map Out.strip):∀ n vs,iter n g vs=(iter n f vs).map Out.strip
 |0,_=>rfl
 | n + 1, vs => by
  simp only[iter,h]
  cases f vs with
  |none=>rfl
  | some o =>
   simp only[Bcn,Acf];by_cases hk:o.kind=.cont
   ·have:o.strip.kind=.cont:=hk
    rw[if_pos hk,if_pos this,Out.strip_vals];exact Mac h n _
   ·have:¬ o.strip.kind=.cont:=hk
    rw[if_neg hk,if_neg this];rfl
theorem Xap {β:Type}(cf:Nat->List D->Option (List D))(n:Nat)(t:Tm β):∀ ρ,runT cf n t.strip ρ=(runT cf n t ρ).map Out.strip:=by
 induction t with
 |leaf=>exact fun _=>rfl
 |stuck=>exact fun _=>rfl
 | lt g p xs k' k ih =>
  intro ρ;simp only[Tm.strip,runT];split
  ·cases p.run (xs.map (·.val ρ)) with
   |none=>rfl
   | some ds =>
    simp only[Acf];split
    ·exact ih _
    ·rfl
  ·exact ih _
 | call g f xs k' olds k ih =>
  intro ρ;simp only[Tm.strip,runT];split
  ·cases cf f (xs.map (·.val ρ)) with
   |none=>rfl
   | some ds =>
    simp only[Acf];split
    ·exact ih _
    ·rfl
  ·exact ih _
 | ite c t e iht ihe =>
  intro ρ;simp only[Tm.strip,runT];split
  ·exact iht _
  ·exact ihe _
  ·rfl
 | bind i t k iht ihk =>
  intro ρ;simp only[Tm.strip,runT,iht]
  cases runT cf n t ρ with
  |none=>rfl
  | some o =>
   simp only[Bcn,Acf];by_cases hk:o.kind=.yield i
   ·have:o.strip.kind=.yield i:=hk
    rw[if_pos hk,if_pos this,Out.strip_vals];exact ihk _
   ·have:¬ o.strip.kind=.yield i:=hk
    rw[if_neg hk,if_neg this];rfl
 | loop init body ih =>
  intro ρ;simp only[Tm.strip,runT];exact Mac (fun vs=>ih _) _ _
inductive Tr (α:Type) where
 |nil
 |node (x:Option α) (l r:Tr α)
 |over (n:Nat) (x:Option α) (t:Tr α)
 deriving Inhabited
def Tr.get {α:Type}:Tr α->Nat->Option α
 |.nil,_=>none
 |.node x l r,n=>bif Nat.beq n 0 then x else bif Nat.beq (n % 2) 1 then l.get (n / 2) else r.get (n / 2-1)
 |.over m x t,n=>bif Nat.beq n m then x else t.get n
def Tr.set {α:Type}:Nat->Tr α->Nat->Option α->Tr α
 |0,t,n,x=>.over n x t
 |k+1,.node y l r,n,x=>bif Nat.beq n 0 then .node x l r else bif Nat.beq (n % 2) 1 then .node y (Tr.set k l (n / 2) x) r else .node y l (Tr.set k r (n / 2-1) x)
 |k+1,.nil,n,x=>bif Nat.beq n 0 then .node x .nil .nil else bif Nat.beq (n % 2) 1 then .node none (Tr.set k .nil (n / 2) x) .nil else .node none .nil (Tr.set k .nil (n / 2-1) x)
 |_+1,.over m y t,n,x=>.over n x (.over m y t)
inductive CK where
 |sc (z:D)
 |sl (sz:Nat)
 |pn
 |ot
 deriving Inhabited
structure TI where
 agg:Bool
 size:Nat
 bytes:Nat
 cells:List CK
 flds:List (Nat×Nat)
 elem:Option Nat
 ik:Option IntKind
 isBool:Bool
 isStr:Bool
 isPtr:Bool
 cmp:Bool
 deriving Inhabited
def flat (P:Program):Nat->TypeId->Option (List TypeId)
 |0,_=>none
 | d + 1, t =>
  match P.underlying t with
  |some (.struct fs)=>fs.toList.foldl (fun acc f=>acc.bind fun l=>(flat P d f.type).bind fun m=>bif Nat.beq f.offset l.length then some (l++m) else none) (some [])
  |some (.array _ _)=>none
  |some _=>some [t]
  |none=>none
def oF (P:Program)(t:TypeId):CK :=
 match P.underlying t with
 |some (.int k)=>.sc (.int k 0)
 |some .bool=>.sc (.bool false)
 |some .string=>.sc (.str [])
 |some (.slice e)=>.sl (((P.info? e).map (·.size)).getD 0)
 |some (.pointer _)=>.pn
 |_=>.ot
def zeroCell:Value->CK->Bool
 |.int k n,.sc (.int k' n')=>decide (k=k')&&decide (n=0)&&decide (n'=0)
 |.bool b,.sc (.bool b')=>decide (b=false)&&decide (b'=false)
 |.string s,.sc (.str l)=>decide (s.data.toList=[])&&decide (l=[])
 |.slice none 0 0,.sl _=>true
 |.pointer none,.pn=>true
 |_,_=>false
def Uao (agg:Bool)(z:Option Value)(cs:List CK):Bool :=
 match agg,z,cs with
 |true,some (.agg vs),cs=>vs.toList.length==cs.length&&(vs.toList.zip cs).all fun p=>zeroCell p.1 p.2
 |false,some v,[c]=>zeroCell v c
 |_,_,_=>false
def Rb9 (P:Program)(d:Nat)(t:TypeId):Bool :=
 match flat P d t,P.info? t with
 |some l,some i=>Nat.beq l.length i.size
 |_,_=>false
def Oak (P:Program):Nat->TypeId->Bool
 |0,_=>false
 | d + 1, t =>
  match P.underlying t with
  |some (.int _)=>true
  |some .bool=>true
  |some .string=>true
  | some (.struct fs) => !(P.stoodInHeld t) && fs.toList.all fun f => f.name != "_" && Oak P d f.type && Rb9 P d f.type
  |_=>false
def Ka2:TypeDesc->Bool
 |.struct _=>true
 |.array _ _=>true
 |_=>false
def Bbt:TypeDesc->List (Nat×Nat)
 |.struct fs=>fs.toList.map fun f=>(f.offset,f.type)
 |_=>[]
def Bb4:TypeDesc->Option Nat
 |.slice e=>some e
 |_=>none
def Sbe:TypeDesc->Option IntKind
 |.int k=>some k
 |_=>none
def Tau:TypeDesc->Bool
 |.bool=>true
 |_=>false
def Ab5:TypeDesc->Bool
 |.string=>true
 |_=>false
def Ab6:TypeDesc->Bool
 |.pointer _=>true
 |_=>false
def Tbj (P:Program)(t:TypeId)(i:TypeInfo)(u:TypeDesc)(cs:List CK):TI :=
  { agg:=Ka2 u,size:=i.size,bytes:=i.bytes,cells:=cs,flds:=Bbt u,elem:=Bb4 u,ik:=Sbe u,isBool:=Tau u,isStr:=Ab5 u,
    isPtr:=Ab6 u,cmp:=Ka2 u&&Oak P 12 t&&!(P.eqGuardType P.depth t) }
def tQ (P:Program)(t:TypeId):Option TI :=
 match P.info? t,P.underlying t,(flat P 12 t).map (·.map (oF P)) with
 |some i,some u,some cs=>bif Nat.beq cs.length i.size&&Uao (Ka2 u) i.zero cs then some (Tbj P t i u cs) else none
 |_,_,_=>none
inductive Pth where
 |no
 |view
 |path (p:List (aM×Nat×Nat))
 |suf (sz:Nat) (lo:aM)
 deriving Inhabited
inductive aR where
 |dead
 |sc (x:aM)
 |su (g:aM×Bool) (x:aM)
 |ex (r:Nat)
 |sn (deps:List (Nat×Nat)) (p:Pth) (nie:Bool) (x:aM)
 |px (b off:Nat)
 |pe (l:aR) (sz:Nat) (i:aM) (off:Nat)
 |rp (deps:List (Nat×Nat)) (sz:Nat) (x:aM)
 |pn
 |clo (f:Nat) (fu:List aR)
 deriving Inhabited
inductive SV where
 |dead
 |one (l:aR)
 |agg (ls:List aR)
 |tup (vs:List (Bool×List aR))
 deriving Inhabited
inductive RSt where
 |live | frozen | gone
 |fwd (r:Nat)
 deriving DecidableEq,Inhabited
inductive aS where
 |slot (g:Option (aM×Bool)) (v:SV)
 |box (ro:Bool) (ls:List aR)
 |root (x:aM) (m bc:Nat) (st:RSt)
 deriving Inhabited
def kT (t:Nat):Nat:=3*t
def kB (b:Nat):Nat:=3*b+1
def kR (r:Nat):Nat:=3*r+2
inductive RdM (α:Type) where
 |ret (a:α)
 |no
 |rd (k:Nat) (f:Option aS->RdM α)
def RdM.bind {α γ:Type}:RdM α->(α->RdM γ)->RdM γ
 |.ret a,f=>f a
 |.no,_=>.no
 |.rd k h,f=>.rd k fun c=>(h c).bind f
instance:Monad RdM:={ pure:=.ret,bind:=.bind }
def RdM.run {α:Type}(look:Nat->Option aS):RdM α->Option (α×List Nat)
 |.ret a=>some (a,[])
 |.no=>none
 |.rd k f=>((f (look k)).run look).map fun x=>(x.1,k::x.2)
def RdM.eval {α:Type}(look:Nat->Option aS):RdM α->Option α
 |.ret a=>some a
 |.no=>none
 |.rd k f=>(f (look k)).eval look
def rdK (k:Nat):RdM (Option aS):=.rd k .ret
def nW {α:Type}:Option α->RdM α
 |some a=>.ret a
 |none=>.no
def bP (b:Bool):RdM Unit:=bif b then .ret () else .no
inductive Step where
 |prim (p:aU) (xs:List aM) (n:Nat)
 |call (f:Nat) (xs:List aM) (n:Nat) (olds:List aM)
 deriving Inhabited
def Step.n:Step->Nat
 |.prim _ _ n=>n
 |.call _ _ n _=>n
structure bS where
 lets:List Step
 upd:List (Nat×aS)
 deriving Inhabited
def bL (l:List Step):Nat:=l.foldl (fun s x=>s+x.n) 0
inductive LS where
 |sc
 |fz (nie:Bool)
 |mu (m:Nat)
 |ow (m:Nat)
 |px (b:Nat)
 |clo (f:Nat) (fu:List LS)
 |rp (sz:Nat)
 deriving Inhabited
inductive BS where
 |sc
 |fz (nie:Bool)
 |ow (m:Nat)
 |ot
 deriving Inhabited
inductive BO where
 |sc
 |fz
 |ow (m:Nat)
 |dead
 deriving Inhabited
inductive LR where
 |sc
 |fz
 |ow (m:Nat)
 |rp (sz:Nat)
 |bx (cells:List BO)
 deriving Inhabited
structure Sig where
 fn:Nat
 params:List (Bool×List LS)
 boxes:List (Bool×List (BS×BO))
 results:List (Bool×List LR)
 deriving Inhabited
structure Env where
 ti:Nat->Option TI
 sigs:List (Nat×Sig)
 ntmps:Nat
 ngh:Nat:=0
 freezeEx:Bool:=false
 moveSn:Bool:=false
 nomv:List (Nat×Nat):=[]
 hints:List (Nat×List (Nat×Nat×Nat×Nat)×List Nat×Nat×List Nat):=[]
 pxs:List Nat:=[]
 nbx:Nat:=0
 deriving Inhabited
def Sbg (a b:IntKind):Bool:=decide (a=b)
def D.beq0:D->D->Bool
 |.int k n,.int k' n'=>Sbg k k'&&decide (n=n')
 |.bool a,.bool b=>a==b
 |.str a,.str b=>a==b
 |.rows s [],.rows s' []=>Nat.beq s s'
 |.undef,.undef=>true
 |.hole,.hole=>true
 |_,_=>false
def aM.beq0:aM->aM->Bool
 |.v i,.v j=>Nat.beq i j
 |.c a,.c b=>a.beq0 b
 |_,_=>false
def Kbr:Option (aM×Bool)->Option (aM×Bool)->Bool
 |none,none=>true
 |some (a,b),some (c,d)=>a.beq0 c&&(b==d)
 |_,_=>false
def fP:CK->aR
 |.sc z=>.sc (.c z)
 |.sl sz=>.sn [] .no true (.c (.rows sz []))
 |.pn=>.pn
 |.ot=>.dead
def Uab (ti:Nat->Option TI)(t:TypeId):Value->Option SV
 |.int k n=>some (.one (.sc (.c (.int k n))))
 |.bool b=>some (.one (.sc (.c (.bool b))))
 |.string s=>some (.one (.sc (.c (.str s.data.toList))))
 | .slice none 0 0 => match ti t with
  |some { cells:=[.sl sz],.. }=>some (.one (.sn [] .no true (.c (.rows sz []))))
  |_=>none
 |.pointer none=>some (.one .pn)
 |_=>none
section
variable (E:Env)
def noG:Option (aM×Bool)->Bool
 |none=>true
 |some _=>false
def unG (g:Option (aM×Bool)):SV->SV
 |.one (.su h x)=>bif Kbr g (some h) then .one (.sc x) else .one (.su h x)
 |v=>v
def gOk (g:Option (aM×Bool)):Option (aM×Bool)->Bool
 |none=>true
 |g'=>Kbr g g'
def Qae (g:Option (aM×Bool))(t:TypeId):Operand->RdM SV
 | .tmp k => .rd (kT k) fun
  |some (.slot g' v)=>bif gOk g g'&&Bcx k E.ntmps then .ret (unG g v) else .no
  |_=>.no
 |.const v=>nW (Uab E.ti t v)
 |.func f=>.ret (.one (.clo f []))
 |.global _=>.no
def one:SV->RdM aR
 |.one l=>.ret l
 |_=>.no
def rdL (g:Option (aM×Bool))(t:TypeId)(x:Operand):RdM aR:=do one (<- Qae E g t x)
def vM (g:Option (aM×Bool)):aR->Option aM
 |.sc a=>some a
 |.su h a=>bif Kbr g (some h) then some a else none
 |_=>none
def rdA (g:Option (aM×Bool))(t:TypeId)(x:Operand):RdM aM:=do
 nW (vM g (<- rdL E g t x))
def Lat (g:Option (aM×Bool))(h:aM×Bool)(t:TypeId)(x:Operand):RdM aM:=do
 let l <- rdL E g t x
 match vM g l with
 |some a=>.ret a
 |none=>nW (vM (some h) l)
def mkS (g:Option (aM×Bool))(x:aM):SV:=match g with
 |none=>.one (.sc x)
 |some z=>.one (.su z x)
def wO:List (Nat×Nat)->RdM (List (Nat×Nat))
 |[]=>.ret []
 | (r, k) :: rest => do
  match <- rdK (kR r) with
  | some (.root _ _ bc st) =>
   let ds <- wO rest
   match st with
   |.frozen=>bif Nat.beq bc k then .ret ds else .no
   |.live=>bif Nat.beq bc k then .ret ((r,k)::ds) else .no
   |_=>.no
  |_=>.no
structure SlR where
 x:aM
 deps:List (Nat×Nat)
 own:Option (Nat×Nat×Nat×Pth)
 nie:Bool
def yU:aR->RdM SlR
 | .ex r => do
  match <- rdK (kR r) with
  |some (.root x m bc .live)=>.ret ⟨x,[(r,bc)],some (r,bc,m,.path []),false⟩
  |some (.root x m bc .frozen)=>.ret ⟨x,[],none,false⟩
  |_=>.no
 | .sn deps p nie x => do
  let ds <- wO deps
  match p,deps,ds with
  |.no,_,_=>.ret ⟨x,ds,none,nie⟩
  | p, [(r, k)], [_] => do
   match <- rdK (kR r) with
   |some (.root _ m _ .live)=>.ret ⟨x,[(r,k)],some (r,k,m,p),nie⟩
   |_=>.no
  |_,_,_=>.ret ⟨x,ds,none,nie⟩
 |_=>.no
def jV (s:SlR)(i:aM)(sz off:Nat):CK->aM->aR
 |.sc _,y=>.sc y
 | .sl _, y =>
  match s.own with
  |some (r,k,m,.path p)=>bif Nat.ble (p.length+2) m then .sn [(r,k)] (.path (p++[(i,sz,off)])) false y else .sn [] .no false y
  |_=>.sn s.deps .no false y
 |_,_=>.dead
def eZ (s:SlR)(i:aM)(sz:Nat):Nat->List CK->Nat->List aR
 |_,[],_=>[]
 |off,c::cs,y=>jV s i sz off c (.v y)::eZ s i sz (off+1) cs (y+1)
def kF (agg:Bool):SV->Option (List aR)
 |.one l=>bif agg then none else some [l]
 |.agg ls=>bif agg then some ls else none
 |_=>none
def Ua5 (agg:Bool)(ls:List aR):Option SV :=
 bif agg then some (.agg ls) else match ls with
  |[l]=>some (.one l)
  |_=>none
def Fa1:CK->Nat
 |.sc (.int _ _)=>0
 |.sc (.bool _)=>1
 |.sc (.str _)=>2
 |_=>3
def Kbh:CK->Bool
 |.sc _=>true
 |_=>false
def Oa2:List CK->Bool
 |[]=>true
 |.sc _::r=>Oa2 r
 |_=>false
structure Put where
 xs:List aM
 moves:List (Nat×Nat×Nat)
 holes:List (Nat×Nat×List (aM×Nat×Nat))
 frz:List Nat
 depth:Nat
def big:Nat:=99
def Tai (mv dv:Bool)(off:Nat):aR->RdM Put
 |.sc x=>.ret ⟨[x],[],[],[],big⟩
 | .ex r => do
  match <- rdK (kR r) with
  |some (.root x m bc .live)=>bif mv then .ret ⟨[x],[(off,r,m)],[],[],m⟩ else .ret ⟨[x],[],[],[r],0⟩
  |some (.root x m bc .frozen)=>.ret ⟨[x],[],[],[],0⟩
  |_=>.no
 | .sn deps p nie x => do
  match deps,nie,x with
  |[],true,.c (.rows _ [])=>.ret ⟨[x],[],[],[],big⟩
  | _, _, _ =>
   let s <- yU (.sn deps p nie x)
   match s.own with
   |some (r,k,m,.path q)=>bif dv&&Nat.ble (q.length+1) m then .ret ⟨[x],[],[(off,r,q)],[],m-q.length⟩ else .ret ⟨[x],[],[],[r],0⟩
   |_=>.ret ⟨[x],[],[],s.deps.map (·.1),0⟩
 |_=>.no
def sM (mv dv:Bool):Nat->List aR->RdM Put
 |_,[]=>.ret ⟨[],[],[],[],big⟩
 | off, l :: ls => do
  let a <- Tai mv dv off l
  let b <- sM mv dv (off+1) ls
  .ret ⟨a.xs++b.xs,a.moves++b.moves,a.holes++b.holes,a.frz++b.frz,min a.depth b.depth⟩
def has (l:List Nat)(n:Nat):Bool:=l.any (Nat.beq n)
def meets (a b:List Nat):Bool:=a.any fun x=>has b x
def dW:List Nat->RdM (List (Nat×aS))
 |[]=>.ret []
 | r :: rs => do
  match <- rdK (kR r) with
  | some (.root x m bc .live) => do
   let l <- dW rs
   .ret ((kR r,.root x m bc .frozen)::l)
  |some (.root _ _ _ .frozen)=>dW rs
  |_=>.no
def distinct:List Nat->Bool
 |[]=>true
 |x::r=>!(has r x)&&distinct r
def Nar:Nat->aM->List (aM×Nat×Nat)->aM->List Step×aM
 |_,_,[],y=>([],y)
 | nv, X, (i, sz, off) :: p, y =>
  match p with
  |[]=>([.prim (.set sz off 1) [X,i,y] 1],.v nv)
  | _ =>
   let (l,z):=Nar (nv+1) (.v nv) p y
   let n:=bL l
   ([.prim (.row sz off [false]) [X,i] 1]++l++[.prim (.set sz off 1) [X,i,z] 1],.v (nv+1+n))
def uK (o:Oper)(g:Option (aM×Bool))(lets:List Step)(v:SV)(upd:List (Nat×aS)):RdM bS :=
 .ret ⟨lets,(match o.dst with|some d=>[(kT d,.slot g v)]|none=>[])++upd⟩
def uJ (o:Oper)(g:Option (aM×Bool))(nv:Nat)(p:aU)(xs:List aM):RdM bS :=
 .ret ⟨[.prim p xs 1],match o.dst with|some d=>[(kT d,.slot none (mkS g (.v nv)))]|none=>[]⟩
def Aba (o:Oper)(g:Option (aM×Bool))(nv:Nat)(v:SV):RdM bS :=
 match g,v with
 | some _, .one l => match vM g l with
  |some x=>uJ o g nv .id [x]
  |none=>uK o g [] v []
 |_,_=>uK o g [] v []
def atoms:List aR->Option (List aM)
 |[]=>some []
 |.sc x::r=>(atoms r).map (x::·)
 |_=>none
def vO:List SV->Option (List aR)
 |[]=>some []
 |.one l::r=>(vO r).map (l::·)
 |_=>none
def Ja9 (g:Option (aM×Bool)):List aR->Option (List aM)
 |[]=>some []
 |l::r=>(vM g l).bind fun x=>(Ja9 g r).map (x::·)
def tiR (t:TypeId):RdM TI:=nW (E.ti t)
def setRange {α:Type}(ls:List α)(off:Nat)(vs:List α):List α:=ls.take off++vs++ls.drop (off+vs.length)
def Pam:aR->Bool
 |.su _ _=>false
 |_=>true
def Da6 (nv:Nat)(mv dv:Bool)(o:Oper)(g:Option (aM×Bool))(ti:TI)(p:aR)(ls:List aR):RdM bS:=do
 bP (Nat.beq ls.length ti.size&&o.dst.isNone)
 match p with
 | .px b off => do
  match <- rdK (kB b) with
  | some (.box false bs) => do
   bP (Nat.ble (off+ls.length) bs.length&&noG g&&ls.all Pam)
   .ret ⟨[],[(kB b,.box false (setRange bs off ls))]⟩
  |_=>.no
 | .pe l sz i off => do
  bP (noG g)
  let s <- yU l
  match s.own with
  | some (r, k, m, .path q) => do
   bP (Nat.ble (q.length+1) m)
   match <- rdK (kR r) with
   | some (.root X m bc .live) => do
    let pu <- sM mv dv off ls
    let fr <- dW pu.frz
    bP (!(has pu.frz r)&&!(pu.moves.any fun z=>Nat.beq z.2.1 r)&&pu.holes.isEmpty&&distinct (pu.moves.map (·.2.1))&&!(pu.moves.any fun z=>has pu.frz z.2.1))
    let m':=min m (q.length+1+pu.depth)
    let st1:Step:=.prim (.set sz off ti.size) ([s.x,i]++pu.xs) 1
    let (l2,X'):=Nar (nv+1) X q (.v nv)
    .ret ⟨st1::l2,(kR r,.root X' m' (bc+1) .live)::(pu.moves.map fun z=>(kR z.2.1,.root (.c .hole) 0 0 .gone))++fr⟩
   |_=>.no
  |_=>.no
 |_=>.no
def Uaz (nv:Nat)(o:Oper)(g:Option (aM×Bool))(ti:TI)(p:aR):RdM bS:=do
 match p with
 | .px b off => do
  match <- rdK (kB b) with
  | some (.box _ bs) =>
   bP (Nat.ble (off+ti.size) bs.length)
   match Ua5 ti.agg ((bs.drop off).take ti.size) with
   |some v=>Aba o g nv v
   |none=>.no
  |_=>.no
 | .pe l sz i off => do
  let s <- yU l
  match Ua5 ti.agg (eZ s i sz off ti.cells nv) with
  |some (.one (.sc x))=>uJ o g nv (.row sz off [true]) [s.x,i]
  |some v=>uK o g [.prim (.row sz off (ti.cells.map Kbh)) [s.x,i] ti.size] v []
  |none=>.no
 |_=>.no
def Sau (o:Oper)(g:Option (aM×Bool))(fo:Nat):aR->RdM bS
 |.px b off=>uK o g [] (.one (.px b (off+fo))) []
 |.pe l sz i off=>uK o g [] (.one (.pe l sz i (off+fo))) []
 |_=>.no
def sW (flds:List (Nat×Nat))(ti:Nat->Option TI):List aR->List (Nat×SV)->Option (List aR)
 |ls,[]=>some ls
 | ls, (i, v) :: r =>
  match flds[i]? with
  | some (off, t) => match ti t with
   | some f => match kF f.agg v with
    |some vs=>bif Nat.beq vs.length f.size&&Nat.ble (off+f.size) ls.length then sW flds ti (setRange ls off vs) r else none
    |none=>none
   |none=>none
  |none=>none
def Eaf (g:Option (aM×Bool))(ty:Nat->TypeId):List (Nat×Operand)->RdM (List (Nat×SV))
 |[]=>.ret []
 | (i, x) :: r => do
  let v <- Qae E g (ty i) x
  let l <- Eaf g ty r
  .ret ((i,v)::l)
def Dad (ti:TI)(len:Nat):List aR->List (Nat×SV)->Option (List aR)
 |ls,[]=>some ls
 | ls, (i, v) :: r =>
  match kF ti.agg v with
  |some vs=>bif Nat.beq vs.length ti.size&&Bcx i len then Dad ti len (setRange ls (i*ti.size) vs) r else none
  |none=>none
def Gba {α:Type}(l:List α):Nat->List α
 |0=>[]
 |n+1=>l++Gba l n
def Ua0 (pt:Bool)(y:SlR):RdM (Nat×List (Nat×aS)×List Nat) :=
 bif pt then .ret (big,[],y.deps.map (·.1)) else
 match y.own with
 | some (r, k, m, .path []) =>
  bif Nat.ble 2 m then .ret (m,[(kR r,.root (.c .hole) 0 0 .gone)],[r]) else .ret (1,[],[r])
 | some (r, k, m, _) => do
  let fr <- dW [r]
  .ret (1,fr,[r])
 | none => match y.x with
  |.c (.rows _ [])=>.ret (big,[],[])
  | _ => do
   let fr <- dW (y.deps.map (·.1))
   .ret (1,fr,y.deps.map (·.1))
def yO (nv nr:Nat)(o:Oper)(ti:TI)(y:SlR)(dy:Nat)(gr:List (Nat×aS))(sx:aM)(m:Nat)(pre:List Step)(upd:List (Nat×aS)):RdM bS :=
 uK o none (pre++[.prim (.app ti.size ti.bytes (Oa2 ti.cells)) [sx,y.x] 1]) (.one (.ex nr))
  ((kR nr,.root (.v (nv+bL pre)) (bif Oa2 ti.cells then big else min m dy) 0 .live)::upd++gr)
def Ma3 (nv nr:Nat)(mv dv:Bool)(o:Oper)(ti:TI)(sl yl:aR):RdM bS:=do
 let y <- yU yl
 let pt:=Oa2 ti.cells
 let (dy,gr,ry) <- Ua0 pt y
 match sl with
 |.sn [] _ true (.c (.rows z []))=>yO nv nr o ti y dy gr (.c (.rows z [])) big [] []
 | _ => do
  let s <- yU sl
  match s.own with
  | some (r, k, m, q) =>
   bP ((!(has ry r)||pt)&&Nat.ble 1 m)
   match q with
   |.path []=>yO nv nr o ti y dy gr s.x m [] [(kR r,.root (.c .hole) 0 0 .gone)]
   |.view=>bif pt||Nat.beq m 1 then yO nv nr o ti y dy gr s.x m [] [(kR r,.root (.c .hole) 0 0 .gone)] else .no
   | .path q => do
    bP (Nat.ble (q.length+1) m&&!(has ry r))
    match <- rdK (kR r) with
    | some (.root X m bc .live) =>
     let (l,X'):=Nar nv X q (.c .hole)
     yO nv nr o ti y dy gr s.x (m-q.length) l [(kR r,.root X' m (bc+1) .live)]
    |_=>.no
   |.no=>.no
   |.suf _ _=>.no
  |none=>.no
def jW:List LS->List aR->List (Nat×Nat×Nat)->Option (List (Nat×Nat×Nat))
 |[],[],acc=>some acc
 |.px b::ss,.px c off::ls,acc=>jW ss ls ((b,c,off)::acc)
 |_,_,_=>none
def Pa3:List LS->List aR->Bool
  |[],[]=>true
  | s :: ss, l :: ls =>
    (match s,l with
     |.sc,.sc _=>true
     |.sc,.su _ _=>true
     |.fz _,.ex _=>true
     |.fz _,.sn ..=>true
     |.mu _,.ex _=>true
     |.mu _,.sn ..=>true
     |.ow _,.ex _=>true
     |.ow _,.sn ..=>true
     |.px _,.px _ _=>true
     |.clo f cs,.clo f' ke=>Nat.beq f f'&&Nat.beq cs.length ke.length
     |.rp _,.rp _ _ _=>true
     |_,_=>false)&&Pa3 ss ls
  |_,_=>false
def tZ:SV->List aR
 |.one l=>[l]
 |.agg ls=>ls
 |_=>[]
def Sbw:SV->Bool
 |.agg _=>true
 |_=>false
def Uai:List (Bool×List LS)->List SV->Bool
 |[],[]=>true
 |(a,ss)::ps,v::vs=>(a==Sbw v)&&Pa3 ss (tZ v)&&Uai ps vs
 |_,_=>false
def Jah (f:Nat)(vs:List SV):List (Nat×Sig)->Option (Nat×Sig)
 |[]=>none
 |(k,s)::r=>bif Nat.beq s.fn f&&Uai s.params vs then some (k,s) else Jah f vs r
inductive RT where
 |nil
 |own (r d:Nat)
 |mu (r d:Nat) (q:List (aM×Nat×Nat)) (X:aM)
 deriving Inhabited
structure Take where
 xs:List aM
 ptrs:List (Nat×Nat×Nat)
 deps:List (Nat×Nat)
 lets:List Step
 rts:List RT
def Take.empty:Take:=⟨[],[],[],[],[]⟩
def Paa (g:Option (aM×Bool))(T:Take)(l:aR):RdM Take:=do
 let x <- nW (vM g l)
 .ret { T with xs:=T.xs++[x] }
def sF (T:Take)(nie:Bool)(l:aR):RdM Take:=do
 let s <- yU l
 .ret { T with xs:=T.xs++[s.x],deps:=T.deps++s.deps,lets:=T.lets++(bif nie&&!s.nie then [.prim .ne [s.x] 0] else []) }
def vJ (T:Take)(d:Nat):aR->RdM Take
 | .ex r => do
  match <- rdK (kR r) with
  | some (.root x m bc .live) => do
   bP (Nat.ble d m)
   .ret { T with xs:=T.xs++[x],rts:=T.rts++[.own r d] }
  |_=>.no
 |.sn [] _ true (.c (.rows z []))=>.ret { T with xs:=T.xs++[.c (.rows z [])],rts:=T.rts++[.nil] }
 |_=>.no
def Ka9 (T:Take)(d:Nat)(l:aR):RdM Take:=do
 let s <- yU l
 match s.own with
 | some (r, k, m, .path q) => do
  bP (Nat.ble (q.length+d) m)
  match <- rdK (kR r) with
  |some (.root X _ _ .live)=>.ret { T with xs:=T.xs++[s.x],rts:=T.rts++[.mu r d q X] }
  |_=>.no
 |_=>.no
def Han (T:Take)(z:Nat):aR->RdM Take
 | .rp deps pz x => do
  let ds <- wO deps
  .ret { T with xs:=T.xs++[x],deps:=T.deps++ds }
 |.pn=>.ret { T with xs:=T.xs++[.c (.rows z [])] }
 |_=>.no
def tV (g:Option (aM×Bool))(T:Take):LS->aR->RdM Take
 |.sc,l=>Paa g T l
 |.fz nie,l=>sF T nie l
 |.mu d,l=>Ka9 T d l
 |.ow d,l=>vJ T d l
 |.px b,.px c off=>.ret { T with ptrs:=T.ptrs++[(b,c,off)] }
 | .clo f cs, .clo f' ls =>
  match jW cs ls [] with
  |some l=>bif Nat.beq f f' then .ret { T with ptrs:=T.ptrs++l } else .no
  |none=>.no
 |.rp z,l=>Han T z l
 |_,_=>.no
def dL (g:Option (aM×Bool)):Take->List LS->List aR->RdM Take
 |T,[],[]=>.ret T
 | T, s :: ss, l :: ls => do
  let T <- tV g T s l
  dL g T ss ls
 |_,_,_=>.no
def fF (g:Option (aM×Bool)):Take->List (Bool×List LS)->List SV->RdM Take
 |T,[],[]=>.ret T
 | T, (a, ss) :: ps, v :: vs => do
  let ls <- nW (kF a v)
  let T <- dL g T ss ls
  fF g T ps vs
 |_,_,_=>.no
def Bas (T:Take):BS->aR->RdM Take
 |.sc,.sc x=>.ret { T with xs:=T.xs++[x] }
 |.fz nie,l=>sF T nie l
 |.ow d,l=>vJ T d l
 |.ot,l=>bif Pam l then .ret T else .no
 |_,_=>.no
def eO:Take->List (BS×BO)->List aR->RdM Take
 |T,[],_=>.ret T
 | T, (s, _) :: ss, l :: ls => do
  let T <- Bas T s l
  eO T ss ls
 |_,_::_,[]=>.no
def Wbb:List (BS×BO)->Bool
 |[]=>true
 |(.ow _,_)::_=>false
 |_::r=>Wbb r
def oV (b:Nat):List (Nat×Nat×Nat)->Option (Nat×Nat)
 |[]=>none
 |(b',c,off)::r=>bif Nat.beq b' b then some (c,off) else oV b r
def fB (ptrs:List (Nat×Nat×Nat)):Take->Nat->List (Bool×List (BS×BO))->RdM Take
 |T,_,[]=>.ret T
 | T, b, (ro, cs) :: r => do
  match oV b ptrs with
  | some (c, off) => do
   match <- rdK (kB c) with
   | some (.box lq ls) => do
    bP (((ro&&Wbb cs)||(!ro&&!lq&&!cs.isEmpty))&&Nat.ble (off+cs.length) ls.length)
    let T <- eO T cs (ls.drop off)
    fB ptrs T (b+1) r
   |_=>.no
  |none=>.no
def iZ (w:Bool)(ptrs:List (Nat×Nat×Nat)):Nat->List (Bool×List (BS×BO))->List Nat
 |_,[]=>[]
 |b,(ro,_)::r=>bif ro==w then (match oV b ptrs with | some (c,_)=>c::iZ w ptrs (b+1) r | none=>iZ w ptrs (b+1) r) else iZ w ptrs (b+1) r
def Vam (nbx:Nat)(ptrs:List (Nat×Nat×Nat)):List (Nat×Nat×Nat)->Bool
 |[]=>true
 |(b,c,off)::r=>Bcx b nbx&&(match oV b ptrs with | some (c',lh)=>Nat.beq c c'&&Nat.beq off lh | none=>false)&&Vam nbx ptrs r
def dC:List RT->List Nat
 |[]=>[]
 |.nil::r=>dC r
 |.own s _::r=>s::dC r
 |.mu s _ _ _::r=>s::dC r
def Zaf (s:Sig)(T:Take):Bool :=
 let wr:=iZ false T.ptrs 0 s.boxes
 Vam s.boxes.length T.ptrs T.ptrs&&distinct (dC T.rts)&&!(T.deps.any fun d=>has (dC T.rts) d.1)&&distinct wr&&!(meets wr (iZ true T.ptrs 0 s.boxes))
def LR.n:LR->Nat
 |.bx cs=>cs.length
 |_=>1
def nI:List LR->Nat
 |[]=>0
 |s::ss=>s.n+nI ss
def bxL:List LR->Nat
 |[]=>0
 |.bx _::ss=>1+bxL ss
 |_::ss=>bxL ss
def kV:List (Bool×List LR)->Nat
 |[]=>0
 |(_,ss)::rs=>bxL ss+kV rs
def bO:List (Bool×List LR)->Nat
 |[]=>0
 |(_,ss)::rs=>nI ss+bO rs
def jX (deps:List (Nat×Nat))(y nr:Nat):BO->aR×List (Nat×aS)×Nat
 |.sc=>(.sc (.v y),[],nr)
 |.fz=>(.sn deps .no false (.v y),[],nr)
 |.ow m=>(.ex nr,[(kR nr,.root (.v y) m 0 .live)],nr+1)
 |.dead=>(.dead,[],nr)
def dV (deps:List (Nat×Nat)):Nat->Nat->List BO->List aR×List (Nat×aS)×Nat
 |_,nr,[]=>([],[],nr)
 | y, nr, s :: ss =>
  let (l,u,nr):=jX deps y nr s
  let (ls,us,nr):=dV deps (y+1) nr ss
  (l::ls,u++us,nr)
def dD (gd:Bool)(deps:List (Nat×Nat))(nb y nr:Nat):LR->aR×List (Nat×aS)×Nat
 |.sc=>(.sc (.v y),[],nr)
 |.fz=>(.sn deps .no false (.v y),[],nr)
 |.ow m=>bif gd then (.sn deps .no false (.v y),[],nr+1) else (.ex nr,[(kR nr,.root (.v y) m 0 .live)],nr+1)
 |.rp sz=>(.rp deps sz (.v y),[],nr)
 | .bx cs =>
  let (ls,us,nr):=dV deps y nr cs
  (.px nb 0,(kB nb,.box false ls)::us,nr)
def dO (gd:Bool)(deps:List (Nat×Nat))(nb:Nat):Nat->Nat->List LR->List aR×List (Nat×aS)×Nat
 |_,nr,[]=>([],[],nr)
 | y, nr, s :: ss =>
  let (l,u,nr):=dD gd deps nb y nr s
  let (ls,us,nr):=dO gd deps nb (y+s.n) nr ss
  (l::ls,u++us,nr)
def jJ (gd:Bool)(deps:List (Nat×Nat))(nb:Nat):Nat->Nat->List (Bool×List LR)->List (Bool×List aR)×List (Nat×aS)×Nat
 |_,nr,[]=>([],[],nr)
 | y, nr, (a, s) :: ss =>
  let (l,u,nr):=dO gd deps nb y nr s
  let (ls,us,nr):=jJ gd deps nb (y+nI s) nr ss
  ((a,l)::ls,u++us,nr)
def mE (ptrs:List (Nat×Nat×Nat))(deps:List (Nat×Nat)):Nat->Nat->Nat->List (Bool×List (BS×BO))->RdM (List (Nat×aS))
 |_,y,nr,[]=>.ret []
 | b, y, nr, (ro, cs) :: r =>
  bif ro then mE ptrs deps (b+1) y nr r else
  match oV b ptrs with
  | some (c, off) => do
   match <- rdK (kB c) with
   | some (.box false ls) => do
    let (ns,us,nr):=dV deps y nr (cs.map (·.2))
    let rest <- mE ptrs deps (b+1) (y+cs.length) nr r
    .ret ((kB c,.box false (setRange ls off ns))::us++rest)
   |_=>.no
  |none=>.no
def Aai:Nat->Nat->List RT->RdM (List Step×List (Nat×aS))
 |_,_,[]=>.ret ([],[])
 | y, nv, .mu r d q X :: rest => do
  match <- rdK (kR r) with
  | some (.root _ m v .live) => do
   let (l,X'):=Nar nv X q (.v y)
   let (ls,us) <- Aai (y+1) (nv+bL l) rest
   .ret ((bif Nat.beq (q.length+d) m then [] else [.prim (.dep d) [.v y] 0])++(l++ls),(kR r,.root X' m (v+1) .live)::us)
  |_=>.no
 |y,nv,_::rest=>Aai y nv rest
def gN:List RT->List (Nat×aS)
 |[]=>[]
 |.own r _::rest=>(kR r,.root (.c .hole) 0 0 .gone)::gN rest
 |_::rest=>gN rest
def eQ:List (Bool×List (BS×BO))->Nat
 |[]=>0
 |(ro,cs)::r=>(bif ro then 0 else cs.length)+eQ r
def oD:Nat->List BO->List Step
 |_,[]=>[]
 |y,.ow m::r=>.prim (.dep m) [.v y] 0::oD (y+1) r
 |y,_::r=>oD (y+1) r
def Uag:Nat->List LR->List Step
 |_,[]=>[]
 |y,.ow m::r=>.prim (.dep m) [.v y] 0::Uag (y+1) r
 |y,.bx cs::r=>oD y cs++Uag (y+cs.length) r
 |y,_::r=>Uag (y+1) r
def Cbp:Nat->List (Bool×List LR)->List Step
 |_,[]=>[]
 |y,(_,ss)::r=>Uag y ss++Cbp (y+nI ss) r
def Cbq:Nat->List RT->List Step
 |_,[]=>[]
 |y,.mu _ d _ _::r=>.prim (.dep d) [.v y] 0::Cbq (y+1) r
 |y,_::r=>Cbq y r
def Ya0:Nat->List (Bool×List (BS×BO))->List Step
 |_,[]=>[]
 |y,(ro,cs)::r=>bif ro then Ya0 y r else oD y (cs.map (·.2))++Ya0 (y+cs.length) r
def xE:RT->Bool
 |.mu _ _ _ _=>true
 |_=>false
def kQ:List (BS×BO)->List aR->RdM (List aM)
 |[],_=>.ret []
 | (s, o) :: ss, l :: ls => do
  let x <- (match s,o,l with
   |.sc,.sc,.sc x=>RdM.ret x
   | .fz _, .fz, l => do
    let r <- yU l
    RdM.ret r.x
   |_,.dead,l=>bif Pam l then .ret (.c .hole) else .no
   |_,_,_=>.no)
  let r <- kQ ss ls
  .ret (x::r)
 |_::_,[]=>.no
def jA (ptrs:List (Nat×Nat×Nat)):Nat->List (Bool×List (BS×BO))->RdM (List aM)
 |_,[]=>.ret []
 | b, (ro, cs) :: r =>
  bif ro then jA ptrs (b+1) r else
  match oV b ptrs with
  | some (c, off) => do
   match <- rdK (kB c) with
   | some (.box false ls) => do
    let l <- kQ cs (ls.drop off)
    let m <- jA ptrs (b+1) r
    .ret (l++m)
   |_=>.no
  |none=>.no
def Caa (g:Option (aM×Bool)):List (Bool×List aR)->SV
 |[(false,[.sc x])]=>mkS g x
 |[(false,[l])]=>.one l
 |[(true,ls)]=>.agg ls
 |rs=>.tup rs
def Fb9 (g:Option (aM×Bool)):SV->Option (aM×Bool)
 |.one (.su _ _)=>none
 |_=>g
def Ibk (nv nb nr:Nat)(o:Oper)(g:Option (aM×Bool))(f:Nat)(vs:List SV):RdM bS:=do
 match Jah f vs E.sigs with
 |none=>.no
 | some (key, s) => do
  let T <- fF g Take.empty s.params vs
  let T <- fB T.ptrs T 0 s.boxes
  bP (Zaf s T&&Nat.ble (kV s.results) 1&&(noG g||(T.rts.isEmpty&&Nat.beq (kV s.results) 0)))
  let nres:=bO s.results
  let nmu:=(T.rts.filter xE).length
  let total:=nres+nmu+eQ s.boxes
  let y0:=nv+bL T.lets
  let (rs,us,xx):=jJ (!noG g) T.deps nb y0 nr s.results
  let bu <- mE T.ptrs T.deps 0 (y0+nres+nmu) xx s.boxes
  let chk:=bif T.deps.isEmpty then [] else Cbp y0 s.results++Cbq (y0+nres) T.rts++Ya0 (y0+nres+nmu) s.boxes
  let (ml,mu) <- Aai (y0+nres) (y0+total) T.rts
  let olds <- (match g with
   |none=>RdM.ret []
   |some _=>jA T.ptrs 0 s.boxes)
  let v:=Caa g rs
  .ret ⟨T.lets++[.call key (T.xs) total olds]++chk++ml,(match o.dst with|some d=>[(kT d,.slot (Fb9 g v) v)]|none=>[])++(us++bu++mu++gN T.rts)⟩
def Aag (g:Option (aM×Bool)):List Operand->List TypeId->RdM (List SV)
 |[],_=>.ret []
 | x :: xs, ts => do
  let v <- Qae E g (ts.headD 0) x
  let l <- Aag g xs ts.tail
  .ret (v::l)
def Sb7:Option IntKind->Bool
 |some k=>Sbg k .u8
 |none=>false
def Mad:Operand->Bool
 |.const (.slice none _ _)=>true
 |_=>false
def Va4:Operand->Bool
 |.const (.pointer none)=>true
 |_=>false
def Sba (nv:Nat)(o:Oper)(g:Option (aM×Bool))(neg:Bool)(t:TypeId)(x y:Operand):RdM bS:=do
 let a <- Qae E g t x
 let b <- Qae E g t y
 match a,b with
 | .agg ls, .agg ms => do
  let ti <- tiR E t
  match atoms ls,atoms ms with
  | some xs, some ys => do
   bP (ti.cmp&&Nat.beq xs.length ti.size&&Nat.beq ys.length ti.size)
   let d:=match o.dst with|some d=>[(kT d,aS.slot none (mkS g (.v (bif neg then nv+1 else nv))))]|none=>[]
   .ret ⟨[.prim (.eqs (ti.cells.map Fa1)) (xs++ys) 1]++(bif neg then [.prim .not [.v nv] 1] else []),d⟩
  |_,_=>.no
 | .one l, .one m => do
  let ti <- tiR E t
  match vM g l,vM g m with
  | some p, some q => do
   bif ti.isBool then uJ o g nv (.eqb neg) [p,q] else uJ o g nv (.bin (bif neg then .neq else .eql)) [p,q]
  |_,_ =>
  let res (p:aU) (x:aM):RdM bS :=
   .ret ⟨[.prim p [x] 1]++(bif neg then [.prim .not [.v nv] 1] else []),match o.dst with|some d=>[(kT d,aS.slot none (mkS g (.v (bif neg then nv+1 else nv))))]|none=>[]⟩
  bif Mad y then do
   bP ti.elem.isSome
   let s <- yU l
   let r <- res .emp s.x
   .ret (bif s.nie then r else ⟨.prim .ne [s.x] 0::r.lets,r.upd⟩)
  else bif Va4 y then do
   bP ti.isPtr
   match l with
   | .rp deps sz x => do
    let _ <- wO deps
    res .emp x
   |.pn=>uJ o g nv .id [.c (.bool (!neg))]
   |.px _ _=>uJ o g nv .id [.c (.bool neg)]
   |.pe _ _ _ _=>uJ o g nv .id [.c (.bool neg)]
   |_=>.no
  else .no
 |_,_=>.no
def Ka4:List CK->Option (List D)
 |[]=>some []
 |.sc z::r=>(Ka4 r).map (z::·)
 |.sl sz::r=>(Ka4 r).map (.rows sz []::·)
 |_::_=>none
def Ka5 (ei:TI)(lo:Bool)(s:SlR):Pth×Bool :=
 let one (m:Nat):Pth×Bool:=bif Nat.beq m 1||!lo then (.view,false) else bif Oa2 ei.cells then (.view,true) else (.no,false)
 match s.own with
 |some (_,_,m,.path [])=>one m
 |some (_,_,m,.view)=>one m
 |_=>(.no,false)
def Jbj (p:Pth)(sz:Nat)(lo:aM)(s:SlR):Pth :=
 match p,s.own with
 |.no,some (_,_,_,.path [])=>.suf sz lo
 |p,_=>p
def Sav (nv:Nat)(o:Oper)(ei:TI)(l:aR):RdM bS:=do
 let s <- yU l
 match s.own with
 | some (r, k, m, .suf sz lo) => do
  bP (Nat.beq sz 1&&Nat.beq ei.size 1&&Nat.ble 1 m)
  match <- rdK (kR r) with
  |some (.root X m' bc .live)=>.ret ⟨[.prim (.clr 1) [X,lo] 1],(match o.dst with | some d=>[(kT d,.slot none .dead)] | none=>[])++[(kR r,.root (.v nv) m' (bc+1) .live)]⟩
  |_=>.no
 |_=>.no
def qO (mv dv:Bool)(nv nb nr:Nat)(g:Option (aM×Bool))(o:Oper):RdM bS :=
 match o.op with
 |.move x | .assign x=>do Aba o g nv (<- Qae E g o.type x)
 | .pick c a b => do
  let c <- rdA E g 0 c
  let a <- Lat E g (c,true) o.type a
  let b <- Lat E g (c,false) o.type b
  uJ o g nv .pick [c,a,b]
 | .alloc e => do
  let ti <- tiR E e
  bP (noG g)
  uK o g [] (.one (.px nb 0)) [(kB nb,.box false (ti.cells.map fP))]
 | .box e x => do
  let ti <- tiR E e
  let v <- Qae E g e x
  match kF ti.agg v with
  | some ls => do
   bP (Nat.beq ls.length ti.size&&noG g&&ls.all Pam)
   uK o g [] (.one (.px nb 0)) [(kB nb,.box false ls)]
  |none=>.no
 | .build t parts => do
  let ti <- tiR E t
  bP ti.agg
  let ps <- Eaf E g (fun i=>(ti.flds.getD i (0,0)).2) parts.toList
  match sW ti.flds E.ti (ti.cells.map fP) ps with
  |some ls=>uK o g [] (.agg ls) []
  |none=>.no
 | .buildSlice t len parts => do
  let st <- tiR E t
  let e <- nW st.elem
  let ti <- tiR E e
  let ps <- Eaf E g (fun _=>e) parts.toList
  bP (Nat.ble (len*ti.size) 4096&&Bcx 0 ti.size&&Bcx (len*ti.bytes) 4096)
  match Dad ti len (Gba (ti.cells.map fP) len) ps with
  | some ls => do
   let pu <- sM mv dv 0 ls
   bP (noG g||(pu.moves.isEmpty&&pu.holes.isEmpty&&pu.frz.isEmpty))
   let fr <- dW pu.frz
   bP (distinct (pu.moves.map (·.2.1))&&!(pu.moves.any fun z=>has pu.frz z.2.1)&&pu.holes.isEmpty)
   bif noG g then
    uK o g [.prim (.mk ti.size len) pu.xs 1] (.one (.ex nr))
     ((kR nr,.root (.v nv) (min big (pu.depth+1)) 0 .live)::(pu.moves.map fun z=>(kR z.2.1,.root (.c .hole) 0 0 .gone))++fr)
   else uK o g [.prim (.mk ti.size len) pu.xs 1] (.one (.sn [] .no false (.v nv))) []
  |none=>.no
 | .load t a => do
  let ti <- tiR E t
  Uaz nv o g ti (<- rdL E g 0 a)
 | .store t a x => do
  let ti <- tiR E t
  let p <- rdL E g 0 a
  let v <- Qae E g t x
  match kF ti.agg v with
  |some ls=>Da6 nv mv dv o g ti p ls
  |none=>.no
 | .nilCheck x => do
  match <- rdL E g 0 x with
  | .rp deps sz y => do
   let ds <- wO deps
   uK o g [.prim .ne [y] 0] (.one (.pe (.sn ds .no false y) sz (.c (.int .i64 0)) 0)) []
  |.px b off=>uK o g [] (.one (.px b off)) []
  |.pe l sz i off=>uK o g [] (.one (.pe l sz i off)) []
  |.clo f cs=>uK o g [] (.one (.clo f cs)) []
  |.pn=>uK o g [.prim .ne [.c (.rows 0 [])] 0] (.one (.pe (.sn [] .no false (.c (.rows 0 []))) 0 (.c (.int .i64 0)) 0)) []
  |_=>.no
 |.binOp .eql t x y _=>Sba E nv o g false t x y
 |.binOp .neq t x y _=>Sba E nv o g true t x y
 | .binOp op t x y ty => do
  let a <- rdA E g t x
  let b <- rdA E g ty y
  uJ o g nv (.bin op) [a,b]
 | .unOp op _ x => do
  let a <- rdA E g 0 x
  match op with
  |.not=>uJ o g nv .not [a]
  |.neg=>uJ o g nv .neg [a]
  |.xor=>uJ o g nv .inv [a]
  |_=>.no
 | .convert src dst x => do
  let s <- tiR E src
  let d <- tiR E dst
  match d.ik with
  | some k => do
   bP s.ik.isSome
   let a <- rdA E g src x
   uJ o g nv (.conv k) [a]
  | none =>
   bif d.isStr then
    bif s.isStr then do
     let a <- rdA E g src x
     uJ o g nv .sid [a]
    else do
     let e <- nW s.elem
     let ei <- tiR E e
     bP (Sb7 ei.ik)
     let r <- yU (<- rdL E g src x)
     uJ o g nv .bstr [r.x]
   else .no
 | .makeFunc (.func f) first fu => do
  bP first.isEmpty
  let vs <- Aag E g fu.toList []
  let ls <- nW (vO vs)
  uK o g [] (.one (.clo f ls)) []
 | .makeSlice t l c => do
  let st <- tiR E t
  let e <- nW st.elem
  let ti <- tiR E e
  bP (noG g)
  let a <- rdA E g 0 l
  let b <- rdA E g 0 c
  bP (a.beq0 b&&Bcx 0 ti.size&&Bcx 0 ti.bytes)
  let zs <- nW (Ka4 ti.cells)
  uK o none [.prim (.make ti.bytes zs) [a] 1] (.one (.ex nr)) [(kR nr,.root (.v nv) big 0 .live)]
 | .slice t x lo hi mx => do
  let ti <- tiR E t
  match mx with
  |some _=>.no
  | none => do
   let l <- rdL E g t x
   let vr <- (match lo with|some a=>rdA E g 0 a|none=>RdM.ret (.c (.int .i64 0)))
   match l with
   | .sc s => do
    bP (ti.isStr&&(noG g||hi.isSome))
    match hi with
    | some h => do
     let h <- rdA E g 0 h
     uJ o g nv .ssub [s,vr,h]
    | none =>
     .ret ⟨[.prim .slen [s] 1,.prim .ssub [s,vr,.v nv] 1],match o.dst with|some d=>[(kT d,.slot none (mkS g (.v (nv+1))))]|none=>[]⟩
   | l => do
    bP ti.elem.isSome
    let s <- yU l
    let ei <- tiR E (ti.elem.getD 0)
    let (p,fl):=Ka5 ei lo.isSome s
    match hi with
    | some h => do
     let h <- rdA E g 0 h
     match l with
     |.sn _ _ true (.c (.rows z []))=>uK o g [.prim (.sub ei.size fl) [s.x,vr,h] 1] (.one l) []
     |_=>uK o g [.prim (.sub ei.size fl) [s.x,vr,h] 1] (.one (.sn s.deps p false (.v nv))) []
    | none =>
     uK o g [.prim .len [s.x] 1,.prim (.sub ei.size fl) [s.x,vr,.v nv] 1] (.one (.sn s.deps (Jbj p ei.size vr s) false (.v (nv+1)))) []
 | .fieldAddr t x f => do
  let ti <- tiR E t
  match ti.flds[f]? with
  | some (off, ft) => do
   let fi <- tiR E ft
   bP (Bcx 0 fi.size)
   Sau o g off (<- rdL E g 0 x)
  |none=>.no
 | .field t x f => do
  let ti <- tiR E t
  match ti.flds[f]? with
  | some (off, ft) => do
   let fi <- tiR E ft
   match <- Qae E g t x with
   | .agg ls => do
    bP (Nat.ble (off+fi.size) ls.length&&Nat.beq ls.length ti.size)
    match Ua5 fi.agg ((ls.drop off).take fi.size) with
    |some v=>Aba o g nv v
    |none=>.no
   |_=>.no
  |none=>.no
 | .indexAddr t x i => do
  let ti <- tiR E t
  let e <- nW ti.elem
  let ei <- tiR E e
  let l <- rdL E g t x
  let s <- yU l
  let a <- rdA E g 0 i
  bP (Bcx 0 ei.size)
  uK o g [.prim .inb [s.x,a] 0] (.one (.pe l ei.size a 0)) []
 | .index t x i => do
  let ti <- tiR E t
  bP ti.isStr
  let s <- rdA E g t x
  let a <- rdA E g 0 i
  uJ o g nv .sidx [s,a]
 | .extract x i => do
  match <- Qae E g 0 x with
  | .tup vs => match vs[i]? with
   | some (a, ls) => match Ua5 a ls with
    |some v=>Aba o g nv v
    |none=>.no
   |none=>.no
  |_=>.no
 | .call { callee := .builtin b, args, argTypes } => do
  match b,args.toList with
  | .len, [x] => do
   let t <- nW argTypes[0]?
   let ti <- tiR E t
   let l <- rdL E g t x
   match vM g l with
   | some a => do
    bP ti.isStr
    uJ o g nv .slen [a]
   | none => do
    bP ti.elem.isSome
    let s <- yU l
    uJ o g nv .len [s.x]
  | .append, [x, y] => do
   let t <- nW argTypes[0]?
   let ty <- nW argTypes[1]?
   let ti <- tiR E t
   let e <- nW ti.elem
   let ei <- tiR E e
   let yi <- tiR E ty
   bP (yi.elem.isSome&&Bcx 0 ei.size&&noG g&&Bcx 0 ei.bytes&&Nat.beq argTypes.size 2)
   Ma3 nv nr mv dv o ei (<- rdL E g t x) (<- rdL E g ty y)
  | .clear, [x] => do
   let t <- nW argTypes[0]?
   let ti <- tiR E t
   let e <- nW ti.elem
   let ei <- tiR E e
   bP (noG g&&Nat.beq argTypes.size 1)
   Sav nv o ei (<- rdL E g t x)
  | .min, xs => do
   let vs <- Aag E g xs argTypes.toList
   let as <- nW ((vO vs).bind (Ja9 g))
   uJ o g nv .min as
  | .max, xs => do
   let vs <- Aag E g xs argTypes.toList
   let as <- nW ((vO vs).bind (Ja9 g))
   uJ o g nv .max as
  |_,_=>.no
 | .call { callee := .value f, args, argTypes } => do
  match <- rdL E g 0 f with
  | .clo fn fu => do
   let vs <- Aag E g args.toList argTypes.toList
   Ibk E nv nb nr o g fn (vs++fu.map .one)
  |_=>.no
 |_=>.no
end
def kJ {α:Type}(n:Nat):Option α:=none
structure St where
 tr:Tr aS
 nv:Nat
 nb:Nat
 nr:Nat
 nt:Nat
 deriving Inhabited
def vW (nt nb nr k:Nat):Bool :=
 bif Nat.beq (k % 3) 0 then Bcx (k / 3) nt else bif Nat.beq (k % 3) 1 then Bcx (k / 3) nb else Bcx (k / 3) nr
def St.get (s:St)(k:Nat):Option aS:=bif vW s.nt s.nb s.nr k then s.tr.get k else none
def bC (n:Nat):aM->Bool
 |.v i=>Bcx i n
 |.c _=>true
def Da9 (n:Nat):Step->Bool
 |.prim _ xs _=>xs.all (bC n)
 |.call _ xs k olds=>xs.all (bC n)&&olds.all (bC n)&&Nat.ble olds.length k
def eU:Nat->List Step->Bool
 |_,[]=>true
 |n,s::r=>Da9 n s&&eU (n+s.n) r
def pU (n:Nat):Option (aM×Bool)->Bool
 |none=>true
 |some (x,_)=>bC n x
def St.put (s:St)(k:Nat)(c:Option aS):St:={ s with tr:=s.tr.set 16 k c }
def St.puts (s:St):List (Nat×aS)->St
 |[]=>s
 |(k,c)::r=>(s.put k (some c)).puts r
def Naj (ops:List Oper)(o:Oper):RdM (Option (aM×Bool)) :=
 match o.guard with
 |none=>.ret none
 | some (j, want) =>
  match (ops[j]?).bind (·.dst) with
  | some d => .rd (kT d) fun
   |some (.slot none (.one (.sc x)))=>.ret (some (x,want))
   |some (.slot none (.one (.su _ x)))=>.ret (some (x,want))
   |_=>.no
  |none=>.no
def cB:Nat:=16
def zS (n nb nr k:Nat):Bool :=
 bif Nat.beq (k % 3) 0 then Bcx (k / 3) n else bif Nat.beq (k % 3) 1 then Nat.ble (k / 3) nb else Bcx (k / 3) (nr+cB)
def Xa1:List (Nat×aS)->Nat->Option aS
 |[],_=>none
 | (k', c) :: r, k => match Xa1 r k with
  |some d=>some d
  |none=>bif Nat.beq k' k then some c else none
def RdM.over {α:Type}(u:List (Nat×aS)):RdM α->RdM α
 |.ret a=>.ret a
 |.no=>.no
 | .rd k f => match Xa1 u k with
  |some c=>(f (some c)).over u
  |none=>.rd k fun c=>(f c).over u
def Baw:Bool->Op->Option Nat
 |true,.store _ _ (.tmp t)=>some t
 | true, .buildSlice _ _ parts => match parts.toList with
  |[(_,.tmp t)]=>some t
  |_=>none
 |_,_=>none
def Nav:Bool->Oper->Option Nat
 | true, o => match o.op with
  |.load _ _=>o.dst
  |_=>none
 |false,_=>none
def Lae (E:Env)(nv nr t:Nat):RdM (Option (List Step×List (Nat×aS))):=do
 match <- rdK (kT t) with
 | some (.slot none (.one (.sn deps (.path (p :: ps)) nie x))) => do
  let s <- yU (.sn deps (.path (p::ps)) nie x)
  match s.own with
  | some (r, k, m, .path (q :: qs)) =>
   bif Nat.ble (qs.length+2) m&&Bcx t E.ntmps then do
    match <- rdK (kR r) with
    | some (.root X m' bc .live) =>
     let (l,X'):=Nar nv X (q::qs) (.c .hole)
     .ret (some (l,[(kT t,.slot none (.one (.ex nr))),(kR nr,.root s.x (m-(qs.length+1)) 0 .live),(kR r,.root X' m (bc+1) .live)]))
    |_=>.ret none
   else .ret none
  |_=>.ret none
 |_=>.ret none
def Xab (E:Env)(mv dv:Bool)(nv nb nr:Nat)(g:Option (aM×Bool))(o:Oper):RdM bS :=
 match Baw (dv&&noG g) o.op with
 | none => match Nav (dv && noG g && !mv) o with
  |none=>qO E mv dv nv nb nr g o
  | some t => do
   let r <- qO E mv dv nv nb nr g o
   match <- (Lae E (nv+bL r.lets) nr t).over r.upd with
   |some (l,u)=>.ret ⟨r.lets++l,r.upd++u⟩
   |none=>.ret r
 | some t => do
  match <- Lae E nv nr t with
  | some (l, u) => do
   let r <- (qO E mv false (nv+bL l) nb (nr+1) g o).over u
   .ret ⟨l++r.lets,u++r.upd⟩
  |none=>qO E mv false nv nb nr g o
def lL (E:Env)(ops:List Oper)(mv dv:Bool)(nv nb nr:Nat)(o:Oper):RdM (Option (aM×Bool)×bS):=do
 let g <- Naj ops o
 bP (match o.dst with|some d=>Bcx d E.ntmps|none=>true)
 let r <- Xab E mv dv nv nb nr g o
 bP (r.upd.all fun x=>zS E.ntmps nb nr x.1)
 .ret (g,r)
structure OpI where
 g:Option (aM×Bool)
 res:bS
 log:List Nat
 nb:Nat
 nr:Nat
 deriving Inhabited
def nR (t:Tr aS)(r:Nat):Nat->Bool
 |0=>true
 |n+1=>(t.get (kR r)).isNone&&nR t (r+1) n
def Cah (n:Nat):Pth->Bool
 |.path p=>p.all fun x=>bC n x.1
 |.suf _ x=>bC n x
 |_=>true
mutual
def aR.inScope (n:Nat):aR->Bool
 |.sc x=>bC n x
 |.su g x=>bC n x&&bC n g.1
 |.sn _ p _ x=>bC n x&&Cah n p
 |.pe l _ i _=>l.inScope n&&bC n i
 |.rp _ _ x=>bC n x
 |.clo _ l=>bF n l
 |_=>true
def bF (n:Nat):List aR->Bool
 |[]=>true
 |a::r=>a.inScope n&&bF n r
end
def yP (n:Nat):SV->Bool
 |.dead=>true
 |.one l=>l.inScope n
 |.agg ls=>bF n ls
 |.tup vs=>vs.all fun v=>bF n v.2
def cZ (n:Nat):aS->Bool
 |.slot g v=>pU n g&&yP n v
 |.box _ ls=>bF n ls
 |.root x _ _ _=>bC n x
def Gbh (s:St)(g:Option (aM×Bool))(r:bS):Bool :=
 (s.tr.get (kB s.nb)).isNone&&nR s.tr s.nr cB&&pU s.nv g&&eU s.nv r.lets&&r.upd.all fun x=>cZ (s.nv+bL r.lets) x.2
def Lbo:List (Nat×aS)->Nat->Nat
 |[],n=>n
 |x::r,n=>Lbo r (bif Nat.beq (x.1 % 3) 2&&Nat.ble n (x.1 / 3) then x.1 / 3+1 else n)
def Uah (draw:Bool)(n:Nat)(u:List (Nat×aS)):Nat:=bif draw then n+cB else Lbo u n
def Oa9 (t:Tr aS)(lo:Nat):Nat->Nat
 |0=>lo
 |n+1=>bif (t.get (kR (lo+n))).isNone then Oa9 t lo n else lo+n+1
def trimS (draw:Bool)(lo:Nat)(s:St):St:=bif draw&&Nat.ble lo s.nr then { s with nr:=Oa9 s.tr lo (s.nr-lo) } else s
def Sb8 (l:List (Nat×Nat))(r i:Nat):Bool:=l.any fun p=>Nat.beq p.1 r&&Nat.beq p.2 i
def Zah (E:Env)(draw:Bool)(kq:Nat)(ops:List Oper):Nat->List Oper->St->List OpI->Sum (List OpI×St) (Nat×St×List OpI)
 |_,[],s,acc=>.inl (acc.reverse,s)
 | i, o :: os, s, acc =>
  let fl:=Sb8 E.nomv kq i
  match (lL E ops (xor (!E.freezeEx) fl) (xor E.moveSn fl) s.nv s.nb s.nr o).run s.get with
  | some ((g, r), log) =>
   bif !(Gbh s g r) then .inr (i,s,acc) else Zah E draw kq ops (i+1) os { (s.puts r.upd) with nv:=s.nv+bL r.lets,nb:=s.nb+1,nr:=Uah draw s.nr r.upd } ({ g,res:=r,log,nb:=s.nb,nr:=s.nr }::acc)
  |none=>.inr (i,s,acc)
def Aat (acc:List Nat):List Edge->Nat->Nat
 |[],m=>m
 |e::es,m=>Aat acc es (bif Region.binds .any e then (m ||| 2 ^ e.on) ||| acc.getD e.on 0 else m)
def waits:List Oper->List Nat->List Nat
 |[],acc=>acc
 |o::os,acc=>waits os (acc++[Aat acc o.after.toList 0])
def Dah:List Oper->Nat->Bool
 |[],_=>true
 |o::os,i=>(o.after.toList.all fun e=>!(Region.binds .any e)||Bcx e.on i)&&Dah os (i+1)
def Na7 (a:OpI)(k:Nat):Bool:=bif Nat.beq (k % 3) 1 then Nat.beq (k / 3) a.nb else bif Nat.beq (k % 3) 2 then Nat.ble a.nr (k / 3)&&Bcx (k / 3) (a.nr+cB) else false
def rJ (a b:OpI):Bool :=
 let wa:=a.res.upd.map (·.1)
 let wb:=b.res.upd.map (·.1)
 !(meets wa b.log)&&!(meets wa wb)&&!(meets a.log wb)&&!(wb.any (Na7 a))
def Ca5 (a:OpI)(i:Nat):List OpI->List Nat->Bool
 |[],_=>true
 |b::bs,w::ws=>(Cc9 w i||rJ a b)&&Ca5 a i bs ws
 |_::_,[]=>false
def wV:List OpI->List Nat->Nat->Bool
 |[],_,_=>true
 |a::as,ws,i=>Ca5 a i as ws.tail&&wV as ws.tail (i+1)
def oN (g:Option (aM×Bool))(k:Tm St):List Step->Tm St
 |[]=>k
 |.prim p xs n::r=>.lt g p xs n (oN g k r)
 |.call f xs n olds::r=>.call g f xs n olds (oN g k r)
def Hau (k:Tm St):List OpI->Tm St
 |[]=>k
 |a::r=>oN a.g (Hau k r) a.res.lets
def Ma2 (E:Env)(pA:Bool)(kq:Nat)(ops:List Oper)(draw:Bool)(s:St):Tm St :=
 match Zah E draw kq ops 0 ops s [] with
 | .inl (is, s') =>
  bif !draw||(Dah ops 0&&wV is (waits ops []) 0) then Hau (.leaf .fall [] (trimS draw s.nr s')) is
  else bif pA then .leaf (.exit (1000000+kq*1000+999)) [] s else .stuck
 |.inr (i,s',is)=>bif pA then .leaf (.exit (1000000+kq*1000+i)) [] s' else .stuck
def Abd:Operand->Nat
 |.tmp t=>2 ^ t
 |_=>0
def Gbf (o:Oper):Nat:=o.op.operands.toList.foldl (fun m x=>m ||| Abd x) 0
def Abq:List Oper->Nat->Nat
 |[],l=>l
 | o :: os, l =>
  let m:=Abq os l
  let m:=match o.dst,o.guard with
   |some d,none=>bif Cc9 m d then m-2 ^ d else m
   |_,_=>m
  m ||| Gbf o
def Wag:List (Nat×Nat)->Nat->Nat
 |[],_=>0
 |(i,m)::r,j=>bif Nat.beq i j then m else Wag r j
def Kaq:Code->List (Nat×Nat)->Nat->Nat->Nat
 |.region _ ops _,_,_,l=>Abq ops.toList l
 |.seq a b,ex,rb,l=>Kaq a ex rb (Kaq b ex rb l)
 |.cond c a b,ex,rb,l=>Abd c ||| Kaq a ex rb l ||| Kaq b ex rb l
 |.block id b,ex,rb,l=>Kaq b ((id,l)::ex) rb l
 |.loop b,ex,rb,_=>Kaq b ex rb (Kaq b ex rb (Kaq b ex rb 0))
 |.exit id,ex,_,_=>Wag ex id
 |.ret,_,rb,_=>rb
 |_,_,_,l=>l
inductive Form where
 |sc
 |nil (z:Nat)
 |ex (m:Nat)
 |sn
 |pn
 |rp (z:Nat)
 |keep (l:aR)
 |alias (i:Nat)
 |dead
 deriving Inhabited
def Law:List (aM×Nat×Nat)->List (aM×Nat×Nat)->Bool
 |[],[]=>true
 |(a,b,c)::r,(a',b',c')::r'=>a.beq0 a'&&Nat.beq b b'&&Nat.beq c c'&&Law r r'
 |_,_=>false
def Pth.beq0:Pth->Pth->Bool
 |.no,.no=>true
 |.view,.view=>true
 |.path p,.path q=>Law p q
 |.suf a x,.suf b y=>Nat.beq a b&&x.beq0 y
 |_,_=>false
def xV:List (Nat×Nat)->List (Nat×Nat)->Bool
 |[],[]=>true
 |(a,b)::r,(a',b')::r'=>Nat.beq a a'&&Nat.beq b b'&&xV r r'
 |_,_=>false
mutual
def aR.beq0:aR->aR->Bool
 |.dead,.dead=>true
 |.sc x,.sc y=>x.beq0 y
 |.su g x,.su h y=>g.1.beq0 h.1&&(g.2==h.2)&&x.beq0 y
 |.ex r,.ex r'=>Nat.beq r r'
 |.sn d p n x,.sn d' p' n' x'=>xV d d'&&p.beq0 p'&&(n==n')&&x.beq0 x'
 |.px b o,.px b' o'=>Nat.beq b b'&&Nat.beq o o'
 |.pe l s i o,.pe l' s' i' o'=>l.beq0 l'&&Nat.beq s s'&&i.beq0 i'&&Nat.beq o o'
 |.rp d s x,.rp d' s' x'=>xV d d'&&Nat.beq s s'&&x.beq0 x'
 |.pn,.pn=>true
 |.clo f l,.clo f' l'=>Nat.beq f f'&&sP l l'
 |_,_=>false
def sP:List aR->List aR->Bool
 |[],[]=>true
 |a::r,b::s=>a.beq0 b&&sP r s
 |_,_=>false
end
def Ba8 (a b:RSt):Bool:=decide (a=b)
def Vah (nv:Nat)(r:Nat):List St->Bool
 |[]=>true
 | s :: rest => match s.get (kR r) with
  | some (.root x m v st) => bC nv x && rest.all fun s' => match s'.get (kR r) with
   |some (.root x' m' v' uq)=>x.beq0 x'&&Nat.beq m m'&&Nat.beq v v'&&Ba8 st uq
   |_=>false
  |_=>false
mutual
def Cax:aR->List Nat
 |.ex r=>[r]
 |.sn d _ _ _=>d.map (·.1)
 |.rp d _ _=>d.map (·.1)
 |.pe l _ _ _=>Cax l
 |.clo _ l=>Iar l
 |_=>[]
def Iar:List aR->List Nat
 |[]=>[]
 |a::r=>Cax a++Iar r
end
def Bbr (s:St):aR->Form
 |.sc _=>.sc
 | .ex r => match s.get (kR r) with
  |some (.root _ m _ .live)=>.ex m
  |some (.root _ _ _ .frozen)=>.sn
  |_=>.dead
 |.sn _ _ true (.c (.rows z []))=>.nil z
 | .sn d p _ _ => match p, d with
  | .view, [(r, k)] => match s.get (kR r) with
   |some (.root _ m v .live)=>bif Nat.beq v k then .ex m else .dead
   |some (.root _ _ _ .frozen)=>.sn
   |_=>.dead
  |_,_=>.sn
 |.pn=>.pn
 |.rp _ z _=>.rp z
 |.pe _ z _ o=>bif Nat.beq o 0 then .rp z else .dead
 |_=>.dead
def Na0:Form->Form->Form
 |.sc,.sc=>.sc
 |.nil z,.nil _=>.nil z
 |.nil _,.ex m=>.ex m
 |.ex m,.nil _=>.ex m
 |.ex m,.ex m'=>.ex (min m m')
 |.nil _,.sn=>.sn
 |.sn,.nil _=>.sn
 |.ex _,.sn=>.sn
 |.sn,.ex _=>.sn
 |.sn,.sn=>.sn
 |.pn,.pn=>.pn
 |.pn,.rp z=>.rp z
 |.rp z,.pn=>.rp z
 |.rp z,.rp _=>.rp z
 |_,_=>.dead
def xD (k j:Nat)(s:St):aR :=
 match s.get k with
 |some (.slot none v)=>(tZ v).getD j .dead
 |some (.box _ ls)=>ls.getD j .dead
 |_=>.dead
def Ob7 (nv k j:Nat)(jg:List St):Form :=
 match jg with
 |[]=>.dead
 | s :: rest =>
  let l:=xD k j s
  bif l.inScope nv&&rest.all (fun s'=>l.beq0 (xD k j s'))&&(Cax l).all (fun r=>Vah nv r (s::rest)) then .keep l
  else rest.foldl (fun f s'=>Na0 f (Bbr s' (xD k j s'))) (Bbr s l)
def Ob3:Form->Bool
 |.keep _=>true
 |_=>false
structure Pos where
 k:Nat
 j:Nat
 f:Form
 deriving Inhabited
def Zau:Option aS->Option aS->Bool
 |some (.slot none (.one _)),some (.slot none (.one _))=>true
 |some (.slot none (.agg a)),some (.slot none (.agg b))=>Nat.beq a.length b.length
 |some (.box r a),some (.box r' b)=>(r==r')&&Nat.beq a.length b.length
 |_,_=>false
def Kbw:Option aS->Nat
 |some (.slot none v)=>(tZ v).length
 |some (.box _ ls)=>ls.length
 |_=>0
def Jb8 (old:List Pos)(k j:Nat):Option Form:=(old.find? fun p=>Nat.beq p.k k&&Nat.beq p.j j).map (·.f)
def Ib0 (s:St)(k j:Nat):Option Nat :=
 match xD k j s with
 |.ex r=>some r
 |_=>none
def Ob4:Form->Bool
 |.ex _=>true
 |_=>false
def aliasOf (jg:List St)(k j:Nat):List Pos->Nat->Option Nat
 |[],_=>none
 | p :: ps, i =>
  bif Ob4 p.f&&jg.all fun s=>match Ib0 s k j,Ib0 s p.k p.j with
   |some r,some r'=>Nat.beq r r'
   |_,_=>false
  then some i else aliasOf jg k j ps (i+1)
def Abg:Form->Form
 |.alias _=>.ex 1000
 |f=>f
def Za7 (nv:Nat)(jg:List St)(old:List Pos)(k:Nat):Nat->Nat->List Pos->List Pos
 |0,_,acc=>acc
 | n + 1, j, acc =>
  let f:=Ob7 nv k j jg
  let f:=match Jb8 old k j,f with
   | some f0, .keep l => match jg with
    |s::_=>Na0 (Abg f0) (Bbr s l)
    |[]=>.dead
   |some f0,f=>Na0 (Abg f0) f
   |none,f=>f
  let f:=bif Ob4 f then (match aliasOf jg k j acc 0 with|some i=>.alias i|none=>f) else f
  Za7 nv jg old k n (j+1) (bif Ob3 f then acc else acc++[⟨k,j,f⟩])
def Kbf (jg:List St)(k:Nat):Bool :=
 match jg with
 |s::rest=>rest.all fun s'=>Zau (s.get k) (s'.get k)&&(match s.get k with | some (.slot (some _) _)=>false | some (.slot _ (.tup _))=>false | some (.slot _ .dead)=>false | some _=>true | none=>false)
 |[]=>false
def Kbe (jg:List St)(k:Nat):Bool :=
 match jg with
 |[s]=>Zau (s.get k) (s.get k)
 |_=>Kbf jg k
def range (a:Nat):Nat->List Nat
 |0=>[]
 |n+1=>a::range (a+1) n
def Nax (E:Env)(nb:Nat)(live:Nat)(jg:List St):List Nat :=
 ((range E.ntmps E.ngh).filter fun t=>Kbe jg (kT t)).map kT++((range 0 E.ntmps).filter fun t=>Cc9 live t&&Kbe jg (kT t)).map kT++((range 0 nb).filter fun b=>Kbe jg (kB b)).map kB
def Qam (nv:Nat)(jg:List St)(old:List Pos):List Nat->List Pos->List Pos
  |[],acc=>acc
  | k :: ks, acc => Qam nv jg old ks (match jg with
     |s::_=>Za7 nv jg old k (Kbw (s.get k)) 0 acc
     |[]=>acc)
def Ibs (nv:Nat)(jg:List St)(old:List Pos)(ks:List Nat):List Pos:=Qam nv jg old ks []
def Jbn (c:aS)(j:Nat)(l:aR):aS :=
 match c with
 |.slot g (.one _)=>.slot g (match l with | .dead=>.dead | l=>.one l)
 |.slot g (.agg ls)=>.slot g (.agg (ls.set j l))
 |.box ro ls=>.box ro (ls.set j l)
 |c=>c
def kM (nv nr:Nat):List Pos->Nat->St->St
 |[],_,s=>s
 | p :: ps, i, s =>
  let put (l:aR) (s:St):St:=match s.get p.k with
   |some c=>s.put p.k (some (Jbn c p.j l))
   |none=>s
  match p.f with
  |.sc=>kM nv nr ps (i+1) (put (.sc (.v (nv+i))) s)
  |.ex m=>kM nv nr ps (i+1) ((put (.ex (nr+i)) s).put (kR (nr+i)) (some (.root (.v (nv+i)) m 0 .live)))
  |.sn=>kM nv nr ps (i+1) (put (.sn [] .no false (.v (nv+i))) s)
  |.nil z=>kM nv nr ps (i+1) (put (.sn [] .no true (.v (nv+i))) s)
  |.rp z=>kM nv nr ps (i+1) (put (.rp [] z (.v (nv+i))) s)
  |.pn=>kM nv nr ps (i+1) (put .pn s)
  |.alias a=>kM nv nr ps (i+1) (put (.ex (nr+a)) s)
  |_=>kM nv nr ps (i+1) (put .dead s)
def Gb2 (s:St)(k j:Nat):List Nat :=
 match xD k j s with
 |.ex r=>[r]
 |.sn [(r,_)] .view _ _=>[r]
 |_=>[]
def Zbv:Form->Bool
 |.sn=>true
 |.rp _=>true
 |_=>false
def Zbw:Form->Bool
 |.ex _=>true
 |.alias _=>true
 |_=>false
def Qaj (nv:Nat)(aE:List Pos)(jg:List St):List Nat->St->St
 |[],s=>s
 | r :: rs, s =>
  let taken:=aE.any fun p=>Zbw p.f&&jg.any fun s'=>has (Gb2 s' p.k p.j) r
  let froz:=aE.any fun p=>Zbv p.f&&jg.any fun s'=>has (Cax (xD p.k p.j s')) r
  let sameX:=match jg with
   | s0 :: rest => match s0.get (kR r) with
    | some (.root x m v st) => bC nv x && !(Ba8 st .gone) && rest.all fun s' => match s'.get (kR r) with
     |some (.root x' _ _ uq)=>x.beq0 x'&&!(Ba8 uq .gone)
     |_=>false
    |_=>false
   |[]=>false
  let c:Option aS :=
   bif taken then some (.root (.c .hole) 0 0 .gone)
   else bif Vah nv r jg&&!froz then (match jg with|s0::_=>s0.get (kR r)|[]=>none)
   else bif sameX then (match jg with|s0::_=>(match s0.get (kR r) with|some (.root x m v _)=>some (.root x m v .frozen)|c=>c)|[]=>none)
   else some (.root (.c .hole) 0 0 .gone)
  Qaj nv aE jg rs (s.put (kR r) c)
def Nao (s:St):List Nat->Tr aS->Tr aS
 |[],t=>t
 |k::ks,t=>Nao s ks (t.set 16 k (s.get k))
def template (E:Env)(nv nb nr fX:Nat)(jg:List St)(keys:List Nat)(aE:List Pos):St :=
 match jg with
 |[]=>⟨.nil,nv,nb,nr,0⟩
 | s :: _ =>
  let s1:St:=⟨Nao s keys .nil,nv+aE.length,nb,fX+aE.length,s.nt⟩
  kM nv fX aE 0 (Qaj nv aE jg (range 0 nr) s1)
def Wba (j:Nat)(l:aR):aS->Option aS
 |.slot none (.one _)=>bif Nat.beq j 0 then some (.slot none (.one l)) else none
 |.slot none (.agg ls)=>some (.slot none (.agg (ls.set j l)))
 |.box ro ls=>some (.box ro (ls.set j l))
 |_=>none
def putAt (k j:Nat)(l:aR)(s:St):St :=
 match (s.get k).bind (Wba j l) with
 |some c=>s.put k (some c)
 |none=>s
def Nai (E:Env)(p:Pos)(nr i:Nat)(s:St):Option (List Step×St×aM) :=
 let put (l:aR) (s:St):St:=putAt p.k p.j l s
 let rNew:=nr+i
 match p.f,xD p.k p.j s with
 |.sc,.sc x=>some ([],s,x)
 | .alias a, .ex r => match s.get (kR r) with
  |some (.root _ _ _ (.fwd r'))=>bif Nat.beq r' (nr+a) then some ([],put (.ex (nr+a)) s,.c .undef) else kJ 5001
  |_=>kJ 5002
 |.nil z,.sn [] .no true x=>some ([],s,x)
 | .ex m, .ex r => match s.get (kR r) with
  |some (.root x m' v .live)=>bif Nat.ble m m' then some ([],put (.ex rNew) (s.puts [(kR r,.root (.c .hole) 0 0 (.fwd rNew)),(kR rNew,.root x m 0 .live)]),x) else kJ 5003
  |_=>kJ 5004
 |.ex m,.sn [] _ true (.c (.rows z []))=>some ([],put (.ex rNew) (s.puts [(kR rNew,.root (.c (.rows z [])) m 0 .live)]),.c (.rows z []))
 | .ex m, .sn [(r, k)] .view _ x => match s.get (kR r) with
  |some (.root _ m' v .live)=>bif Nat.ble m m'&&Nat.beq v k then some ([],put (.ex rNew) (s.puts [(kR r,.root (.c .hole) 0 0 .gone),(kR rNew,.root x m 0 .live)]),x) else kJ 5005
  |_=>kJ 5006
 | .sn, l =>
  match ((do let s <- yU l;let fr <- dW (s.deps.map (·.1));RdM.ret (s.x,fr):RdM (aM×List (Nat×aS)))).eval s.get with
  |some (x,fr)=>some ([],put (.sn [] .no false x) (s.puts fr),x)
  |none=>kJ 5007
 |.rp z,.pn=>some ([],put (.rp [] z (.c (.rows z []))) s,.c (.rows z []))
 | .rp z, .rp deps z' x =>
  match ((do let d <- wO deps;dW (d.map (·.1)):RdM (List (Nat×aS)))).eval s.get with
  |some fr=>some ([],put (.rp [] z x) (s.puts fr),x)
  |none=>kJ 5008
 | .rp z, .pe l z' i 0 =>
  match ((do let s <- yU l;let fr <- dW (s.deps.map (·.1));RdM.ret (s.x,fr):RdM (aM×List (Nat×aS)))).eval s.get with
  |some (x,fr)=>some ([.prim (.one z') [x,i] 1],{ (put (.rp [] z (.v s.nv)) (s.puts fr)) with nv:=s.nv+1 },.v s.nv)
  |none=>kJ 5009
 |.pn,.pn=>some ([],s,.c .undef)
 |.dead,_=>some ([],s,.c .undef)
 |_,_=>kJ (4000000+1000*p.k+p.j)
def kE (E:Env)(nr:Nat):List Pos->Nat->St->Option (List Step×St×List aM)
 |[],_,s=>some ([],s,[])
 | p :: ps, i, s => do
  let (l,s,x) <- Nai E p nr i s
  let (l',s,xs) <- kE E nr ps (i+1) s
  some (l++l',s,x::xs)
def iH (τ:St):List Nat->St->Option St
 |[],s=>some s
 | r :: rs, s =>
  match τ.get (kR r),s.get (kR r) with
  |some (.root _ _ _ .frozen),some (.root x m v .live)=>iH τ rs (s.put (kR r) (some (.root x m v .frozen)))
  |_,_=>iH τ rs s
def Pal (n:Nat)(xs:List aM):aM->aM
 |.v i=>bif Bcx i n then .v i else xs.getD (i-n) (.c .hole)
 |.c d=>.c d
def Wb9 (n:Nat)(xs:List aM):Pth->Pth
 |.path p=>.path (p.map fun x=>(Pal n xs x.1,x.2))
 |.suf sz lo=>.suf sz (Pal n xs lo)
 |p=>p
def Ua6 (b8 dz r:Nat):Nat:=bif Nat.ble b8 r then dz+(r-b8) else r
mutual
def aR.sub (n:Nat)(xs:List aM)(b8 dz:Nat):aR->aR
 |.sc x=>.sc (Pal n xs x)
 |.su g x=>.su (Pal n xs g.1,g.2) (Pal n xs x)
 |.ex r=>.ex (Ua6 b8 dz r)
 |.sn d p e x=>.sn d (Wb9 n xs p) e (Pal n xs x)
 |.pe l s i o=>.pe (l.sub n xs b8 dz) s (Pal n xs i) o
 |.rp d s x=>.rp d s (Pal n xs x)
 |.clo f l=>.clo f (iJ n xs b8 dz l)
 |l=>l
def iJ (n:Nat)(xs:List aM)(b8 dz:Nat):List aR->List aR
 |[]=>[]
 |a::r=>a.sub n xs b8 dz::iJ n xs b8 dz r
end
def zF (a b:aR):Bool :=
 match a with
 |.dead=>Pam b
 | .sn d .no false x => match b with
  |.sn d' _ _ x'=>xV d d'&&x.beq0 x'
  |_=>false
 |a=>a.beq0 b
def eP:List aR->List aR->Bool
 |[],[]=>true
 |a::r,b::s=>zF a b&&eP r s
 |_,_=>false
def dA (n:Nat)(xs:List aM)(b8 dz:Nat):Option aS->Option aS->Bool
 |none,_=>true
 |some (.slot none .dead),_=>true
 |some (.slot none (.one a)),some (.slot none (.one b))=>zF (a.sub n xs b8 dz) b
 |some (.slot none (.agg a)),some (.slot none (.agg b))=>eP (iJ n xs b8 dz a) b
 |some (.box r a),some (.box r' b)=>(r==r')&&eP (iJ n xs b8 dz a) b
 |some (.root x m v .gone),_=>true
 |some (.root x m v st),some (.root x' m' v' uq)=>Ba8 st uq&&Nat.beq m m'&&Nat.beq v v'&&(Pal n xs x).beq0 x'
 |_,_=>false
def Ca8 (n:Nat)(xs:List aM)(b8 dz:Nat)(τ s:St):List Nat->Bool
 |[]=>true
 |k::ks=>dA n xs b8 dz (τ.get k) (s.get k)&&Ca8 n xs b8 dz τ s ks
def Daa (n:Nat)(xs:List aM)(b8 dz:Nat)(τ s:St):List Nat->Bool
 |[]=>true
 |r::rs=>dA n xs b8 dz (τ.get (kR r)) (s.get (kR (Ua6 b8 dz r)))&&Daa n xs b8 dz τ s rs
def nN (E:Env)(n:Nat)(xs:List aM)(eI b8 dz len:Nat)(τ s:St):Bool :=
 Ca8 n xs b8 dz τ s ((range 0 (E.ntmps+E.ngh)).map kT++(range 0 τ.nb).map kB)&&Daa n xs b8 dz τ s (range 0 eI++range b8 len)
def lI (b c k:Nat):Nat:=bif Nat.beq k b then c else bif Nat.beq k c then b else k
mutual
def aR.swap (b c:Nat):aR->aR
 |.px k o=>.px (lI b c k) o
 |.pe l s i o=>.pe (l.swap b c) s i o
 |.clo f l=>.clo f (cK b c l)
 |l=>l
def cK (b c:Nat):List aR->List aR
 |[]=>[]
 |a::r=>a.swap b c::cK b c r
end
def Zaj (b c:Nat):SV->SV
 |.dead=>.dead
 |.one l=>.one (l.swap b c)
 |.agg ls=>.agg (cK b c ls)
 |.tup ts=>.tup (ts.map fun t=>(t.1,cK b c t.2))
def oC (b c:Nat):aS->aS
 |.slot g v=>.slot g (Zaj b c v)
 |.box ro ls=>.box ro (cK b c ls)
 |.root x m v st=>.root x m v st
def mR (b c k:Nat):Nat:=bif Nat.beq (k % 3) 1 then kB (lI b c (k / 3)) else k
def Qad (f:Nat->Option aS):List Nat->Tr aS->Tr aS
 |[],t=>t
 |k::ks,t=>Qad f ks (t.set 16 k (f k))
def St.swap (s:St)(b c:Nat):St:={ s with tr:=Qad (fun k=>(s.get (mR b c k)).map (oC b c)) ((range 0 s.nt).map kT++(range 0 s.nb).map kB++(range 0 s.nr).map kR) s.tr }
def Tak (E:Env)(τ:St):List Nat->St->St
 |[],s=>s
 | t :: ts, s => Tak E τ ts (match τ.get (kT t), s.get (kT t) with
  | some (.slot none (.one (.px b 0))), some (.slot none (.one (.px c 0))) =>
   bif !(Nat.beq b c)&&Nat.ble E.nbx b&&Nat.ble E.nbx c&&Bcx b s.nb&&Bcx c s.nb then s.swap b c else s
  |_,_=>s)
def Jay (E:Env)(n eI b8:Nat)(aE:List Pos)(τ:St)(kind:Kind)(s:St):Option (Tm St):=do
 let (ls,s1,xs) <- kE E s.nr aE 0 { s with nr:=s.nr+aE.length }
 let s2 <- iH τ (range 0 eI) s1
 bif nN E n xs eI b8 s.nr aE.length τ s2&&nR s.tr s.nr aE.length&&Nat.ble eI s.nr&&eU s.nv ls&&xs.all (bC (s.nv+bL ls)) then some (oN none (.leaf kind xs s2) ls) else kJ 1
def coerce (E:Env)(n eI b8:Nat)(aE:List Pos)(τ:St)(kind:Kind)(s:St):Option (Tm St):=Jay E n eI b8 aE τ kind (Tak E τ E.pxs s)
def Tm.no {β:Type}(f:Kind->Bool):Tm β->Bool
 |.leaf k _ _=>!(f k)
 |.stuck=>true
 |.lt _ _ _ _ k=>k.no f
 |.call _ _ _ _ _ k=>k.no f
 |.ite _ t e=>t.no f&&e.no f
 |.bind _ t k=>t.no f&&k.no f
 |.loop _ b=>b.no f
def qF:Kind->Bool
 |.fall=>true
 |_=>false
def Sac (id:Nat):Kind->Bool
 |.fall=>true
 |.exit j=>Nat.beq id j
 |_=>false
def pJ (id:Nat):Kind->Bool
 |.exit j=>Nat.beq id j
 |_=>false
def Na4 (i:Nat):Kind->Bool
 |.yield j=>Nat.beq i j
 |_=>false
def Va5:Kind->Bool
 |.cont=>true
 |_=>false
def Tm.falls:Tm St->List St
 |.leaf .fall _ s=>[s]
 |.leaf _ _ _=>[]
 |.stuck=>[]
 |.lt _ _ _ _ k=>k.falls
 |.call _ _ _ _ _ k=>k.falls
 |.ite _ t e=>t.falls++e.falls
 |.bind _ _ k=>k.falls
 |.loop _ _=>[]
def Tm.exits (id:Nat):Tm St->List St
 |.leaf (.exit j) _ s=>bif Nat.beq j id then [s] else []
 |.leaf _ _ _=>[]
 |.stuck=>[]
 |.lt _ _ _ _ k=>k.exits id
 |.call _ _ _ _ _ k=>k.exits id
 |.ite _ t e=>t.exits id++e.exits id
 |.bind _ t k=>t.exits id++k.exits id
 |.loop _ b=>b.exits id
def Tm.tailExits (id:Nat):Tm St->List St
 |.leaf (.exit j) _ s=>bif Nat.beq j id then [s] else []
 |.leaf _ _ _=>[]
 |.stuck=>[]
 |.lt _ _ _ _ k=>k.tailExits id
 |.call _ _ _ _ _ k=>k.tailExits id
 |.ite _ t e=>t.tailExits id++e.tailExits id
 |.bind _ t k=>k.tailExits id
 |.loop _ b=>[]
def Tm.graft (f:St->Option (Tm St)):Tm St->Option (Tm St)
 |.leaf .fall _ s=>f s
 |.leaf k xs s=>some (.leaf k xs s)
 |.stuck=>some .stuck
 |.lt g p xs n k=>(k.graft f).map fun k=>.lt g p xs n k
 |.call g c xs n o k=>(k.graft f).map fun k=>.call g c xs n o k
 |.ite c t e=>(t.graft f).bind fun t=>(e.graft f).map fun e=>.ite c t e
 |.bind i t k=>bif t.no qF then (k.graft f).map fun k=>.bind i t k else none
 |.loop i b=>bif b.no qF then some (.loop i b) else none
def Tm.exitFall (id:Nat):Tm St->Option (Tm St)
 |.leaf (.exit j) xs s=>some (bif Nat.beq id j then .leaf .fall [] s else .leaf (.exit j) xs s)
 |.leaf k xs s=>some (.leaf k xs s)
 |.stuck=>some .stuck
 |.lt g p xs n k=>(k.exitFall id).map fun k=>.lt g p xs n k
 |.call g c xs n o k=>(k.exitFall id).map fun k=>.call g c xs n o k
 |.ite c t e=>(t.exitFall id).bind fun t=>(e.exitFall id).map fun e=>.ite c t e
 |.bind i t k=>bif t.no (pJ id) then (k.exitFall id).map fun k=>.bind i t k else none
 |.loop i b=>bif b.no (pJ id) then some (.loop i b) else none
def Tm.turn (out:Kind)(jq:Kind->Bool)(f:St->Option (Tm St)):Tm St->Option (Tm St)
 |.leaf k xs s=>bif jq k then f s else some (.leaf k xs s)
 |.stuck=>some .stuck
 |.lt g p xs n k=>(k.turn out jq f).map fun k=>.lt g p xs n k
 |.call g c xs n o k=>(k.turn out jq f).map fun k=>.call g c xs n o k
 |.ite c t e=>(t.turn out jq f).bind fun t=>(e.turn out jq f).map fun e=>.ite c t e
 | .bind i t k =>
  bif Na4 i out then (bif t.no jq then (k.turn out jq f).map fun k=>.bind i t k else none)
  else (t.turn out jq f).bind fun t=>(k.turn out jq f).map fun k=>.bind i t k
 |.loop i b=>bif Va5 out then (bif b.no jq then some (.loop i b) else none) else (b.turn out jq f).map fun b=>.loop i b
def Obz (l:List St)(n:Nat):Nat:=l.foldl (fun m s=>max m s.nr) n
def Rav (τ:St)(eI:Nat):List (Nat×Nat)->Bool
 |[]=>true
 | (r, k) :: d => Bcx r eI && (match τ.get (kR r) with
  |some (.root _ _ _ .gone)=>true
  |some (.root _ _ _ (.fwd _))=>true
  |some (.root _ _ v _)=>Nat.ble k v
  |_=>false)&&Rav τ eI d
mutual
def aR.wf (τ:St)(eI:Nat):aR->Bool
 |.ex r=>(τ.get (kR r)).isSome
 |.sn d _ _ _=>Rav τ eI d
 |.px b _=>(τ.get (kB b)).isSome
 |.pe l _ _ _=>l.wf τ eI
 |.rp d _ _=>Rav τ eI d
 |.clo _ l=>nX τ eI l
 |_=>true
def nX (τ:St)(eI:Nat):List aR->Bool
 |[]=>true
 |a::r=>a.wf τ eI&&nX τ eI r
end
def tH (τ:St)(eI k:Nat):Option aS->Bool
 |none=>true
 | some c => cZ τ.nv c && (match c with
  |.slot none .dead=>Nat.beq (k % 3) 0
  |.slot none (.one l)=>Nat.beq (k % 3) 0&&l.wf τ eI
  |.slot none (.agg ls)=>Nat.beq (k % 3) 0&&nX τ eI ls
  |.box _ ls=>Nat.beq (k % 3) 1&&nX τ eI ls
  |.root _ _ _ (.fwd _)=>false
  |.root _ _ _ _=>Nat.beq (k % 3) 2
  |_=>false)
def Haf (τ:St)(eI:Nat):List Nat->Bool
 |[]=>true
 |k::ks=>tH τ eI k (τ.get k)&&Haf τ eI ks
def Vaq (τ:St):List Nat->Bool
 |[]=>true
 |k::ks=>(τ.get k).isNone&&Vaq τ ks
def Fac (E:Env)(s0:St)(b8 len:Nat)(τ:St):Bool :=
 Nat.beq τ.nv (s0.nv+len)&&Nat.ble E.ntmps τ.nt&&Nat.ble τ.nt (E.ntmps+E.ngh)&&Nat.beq τ.nr (b8+len)&&Nat.ble s0.nr b8 &&
 Vaq τ ((range s0.nr (b8-s0.nr)).map kR)&&Haf τ s0.nr ((range 0 τ.nt).map kT++(range 0 τ.nb).map kB++((range 0 s0.nr++range b8 len).map kR))
def join (E:Env)(live:Nat)(s0:St)(i:Nat)(jq:Kind->Bool)(ends:List St)(t:Tm St):Option (Tm St×St) :=
 let keys:=Nax E s0.nb live ends
 let aE:=Ibs s0.nv ends [] keys
 let fX:=Obz ends s0.nr
 let τ:=template E s0.nv s0.nb s0.nr fX ends keys aE
 bif Fac E s0 fX aE.length τ then (t.turn (.yield i) jq (coerce E s0.nv s0.nr fX aE τ (.yield i))).map fun t=>(t,τ) else kJ 6
def Taj (a b:List Pos):Bool :=
 match a,b with
 |[],[]=>true
 | p :: ps, q :: qs => Nat.beq p.k q.k && Nat.beq p.j q.j && (match p.f, q.f with
  |.sc,.sc=>true
  |.nil _,.nil _=>true
  |.ex m,.ex m'=>Nat.beq m m'
  |.sn,.sn=>true
  |.pn,.pn=>true
  |.rp _,.rp _=>true
  |.dead,.dead=>true
  |.alias i,.alias j=>Nat.beq i j
  |_,_=>false)&&Taj ps qs
 |_,_=>false
def Pa7 (τ:St)(ends:List St):List Nat->Bool
 |[]=>true
 | r :: rs => (match τ.get (kR r) with
  | some (.root _ m v st) => Ba8 st .gone || ends.all fun s => match s.get (kR r) with
   |some (.root _ m' v' uq)=>(Nat.beq m m'&&Nat.beq v v'&&Ba8 st uq)||(Ba8 st .frozen&&Ba8 uq .live)
   |_=>false
  |_=>true)&&Pa7 τ ends rs
def Ian (E:Env)(live:Nat)(s:St)(body:St->Option (Tm St)):Nat->List Pos->List Nat->Nat->List St->Option (Tm St)
 |0,_,_,_,_=>kJ 3
 | fuel + 1, aE, keys, fX, seen =>
  let τ:=template E s.nv s.nb s.nr fX (s::seen) keys aE
  match body τ with
  |none=>none
  | some tb =>
   let ends:=tb.falls.map (Tak E s E.pxs)
   let keys':=Nax E s.nb live (s::ends)
   let plan':=Ibs s.nv (s::ends) aE keys'
   bif Taj aE plan'&&Nat.beq keys.length keys'.length&&Pa7 τ ends (range 0 s.nr) then do
    let (pre,s1,xs) <- kE E s.nr aE 0 { s with nr:=s.nr+aE.length }
    let s2 <- iH τ (range 0 s.nr) s1
    bif nN E s.nv xs s.nr fX s.nr aE.length τ s2&&nR s.tr s.nr aE.length&&pre.isEmpty&&Fac E s fX aE.length τ then do
     let tb <- tb.turn .cont qF (coerce E s.nv s.nr fX aE τ .cont)
     some (.loop xs tb)
    else kJ 2
   else Ian E live s body fuel plan' keys' (Obz ends fX) ends
def Cbj:Operand->Option Bool
 |.const (.bool b)=>some b
 |_=>none
def Raf:Code->Nat
 |.region r _ _=>r
 |.seq a _=>Raf a
 |.cond _ a _=>Raf a
 |.block _ b=>Raf b
 |.loop b=>Raf b
 |_=>0
def hintOf:List (Nat×List (Nat×Nat×Nat×Nat)×List Nat×Nat×List Nat)->Nat->Option (List (Nat×Nat×Nat×Nat)×List Nat×Nat×List Nat)
 |[],_=>none
 |(k,h)::r,n=>bif Nat.beq k n then some h else hintOf r n
def Ob6 (c z:Nat):Form :=
 match c with
 |0=>.sc
 |1=>.nil z
 |2=>.ex z
 |3=>.sn
 |4=>.pn
 |5=>.rp z
 |6=>.alias z
 |_=>.dead
def Ibo (s:St):List Nat->St->St
 |[],t=>t
 | d :: ds, t => Ibo s ds (t.put (kR (d / 3)) (match d % 3 with
  |0=>some (.root (.c .hole) 0 0 .gone)
  |1=>s.get (kR (d / 3))
  | _ => match s.get (kR (d / 3)) with
   |some (.root x m v _)=>some (.root x m v .frozen)
   |c=>c))
def Nau (E:Env)(s:St)(body:St->Option (Tm St))(h:List (Nat×Nat×Nat×Nat)×List Nat×Nat×List Nat):Option (Tm St) :=
 let aE:List Pos:=h.1.map fun p=>⟨p.1,p.2.1,Ob6 p.2.2.1 p.2.2.2⟩
 let fX:=s.nr+h.2.2.1
 let τ:=kM s.nv fX aE 0 (Ibo s h.2.2.2 ⟨Nao s h.2.1 .nil,s.nv+aE.length,s.nb,fX+aE.length,s.nt⟩)
 match body τ with
 |none=>none
 | some tb => do
  let (pre,s1,xs) <- kE E s.nr aE 0 { s with nr:=s.nr+aE.length }
  let s2 <- iH τ (range 0 s.nr) s1
  bif nN E s.nv xs s.nr fX s.nr aE.length τ s2&&nR s.tr s.nr aE.length&&pre.isEmpty&&Fac E s fX aE.length τ then do
   let tb <- tb.turn .cont qF (coerce E s.nv s.nr fX aE τ .cont)
   some (.loop xs tb)
  else kJ 2
def sxC (E:Env)(pA:Bool)(rb:Nat):Code->List (Nat×Nat)->Nat->St->Option (Tm St)
 |.skip,_,_,s=>some (.leaf .fall [] s)
 |.label _,_,_,s=>some (.leaf .fall [] s)
 |.ret,_,_,s=>some (.leaf .ret [] s)
 |.exit id,_,_,s=>some (.leaf (.exit id) [] s)
 |.region kq ops draw,_,_,s=>some (Ma2 E pA kq ops.toList draw s)
 | .seq a b, ex, live, s => do
  let mid:=Kaq b ex rb live
  let t <- sxC E pA rb a ex mid s
  bif t.no qF then some t else
  match t.falls with
  |[_]=>t.graft (sxC E pA rb b ex live)
  | ends => do
   let (t,τ) <- join E mid s 0 qF ends t
   let k <- sxC E pA rb b ex live τ
   some (.bind 0 t k)
 | .cond c a b, ex, live, s =>
  match Cbj c with
  |some true=>sxC E pA rb a ex live s
  |some false=>sxC E pA rb b ex live s
  |none =>
  match s.get (match c with|.tmp t=>kT t|_=>0),c with
  | some (.slot none (.one (.sc x))), .tmp t => bif !(bC s.nv x && Bcx t E.ntmps) then some .stuck else do
   let t <- sxC E pA rb a ex live s
   let e <- sxC E pA rb b ex live s
   some (.ite x t e)
  |_,_=>some .stuck
 | .block id b, ex, live, s => do
  let t <- sxC E pA rb b ((id,live)::ex) live s
  bif t.no (pJ id) then some t else
  match t.falls,t.exits id,t.tailExits id with
  |[],[_],[_]=>t.exitFall id
  | fs, es, _ => do
   let (t,τ) <- join E live s (id+1) (Sac id) (fs++es) t
   some (.bind (id+1) t (.leaf .fall [] τ))
 | .loop b, ex, _, s =>
  let live':=Kaq (.loop b) ex rb 0
  match hintOf E.hints (Raf b) with
  |some h=>Nau E s (sxC E pA rb b ex live') h
  |none=>Ian E live' s (sxC E pA rb b ex live') 9 [] (Nax E s.nb live' [s]) s.nr []
 |.scope _,_,_,_=>some .stuck
 |.goto _,_,_,_=>some .stuck
 |.rangeFunc _ _ _ _,_,_,_=>some .stuck
 |.refuse _,_,_,_=>some .stuck
def iY (i nr:Nat):LS->aR×List (Nat×aS)×Nat×Nat
 |.sc=>(.sc (.v i),[],i+1,nr)
 |.fz nie=>(.sn [] .no nie (.v i),[],i+1,nr)
 |.mu m=>(.ex nr,[(kR nr,.root (.v i) m 0 .live)],i+1,nr+1)
 |.ow m=>(.ex nr,[(kR nr,.root (.v i) m 0 .live)],i+1,nr+1)
 |.px b=>(.px b 0,[],i,nr)
 |.clo f cs=>(.clo f (cs.map fun c=>match c with | .px b=>.px b 0 | _=>.dead),[],i,nr)
 |.rp z=>(.rp [] z (.v i),[],i+1,nr)
def dX (i nr:Nat):List LS->List aR×List (Nat×aS)×Nat×Nat
 |[]=>([],[],i,nr)
 | s :: ss =>
  let (l,u,i,nr):=iY i nr s
  let (ls,us,i,nr):=dX i nr ss
  (l::ls,u++us,i,nr)
def jU (t i nr:Nat):List (Bool×List LS)->List (Nat×aS)×Nat×Nat
 |[]=>([],i,nr)
 | (a, ss) :: ps =>
  let (ls,u,i,nr):=dX i nr ss
  let (us,i,nr):=jU (t+1) i nr ps
  ((kT t,.slot none (match Ua5 a ls with|some v=>v|none=>.dead))::u++us,i,nr)
def gX (i nr:Nat):BS->aR×List (Nat×aS)×Nat×Nat
 |.sc=>(.sc (.v i),[],i+1,nr)
 |.fz nie=>(.sn [] .no nie (.v i),[],i+1,nr)
 |.ow m=>(.ex nr,[(kR nr,.root (.v i) m 0 .live)],i+1,nr+1)
 |.ot=>(.dead,[],i,nr)
def gQ (i nr:Nat):List (BS×BO)->List aR×List (Nat×aS)×Nat×Nat
 |[]=>([],[],i,nr)
 | (s, _) :: ss =>
  let (l,u,i,nr):=gX i nr s
  let (ls,us,i,nr):=gQ i nr ss
  (l::ls,u++us,i,nr)
def kS (b i nr:Nat):List (Bool×List (BS×BO))->List (Nat×aS)×Nat×Nat
 |[]=>([],i,nr)
 | (ro, cs) :: bs =>
  let (ls,u,i,nr):=gQ i nr cs
  let (us,i,nr):=kS (b+1) i nr bs
  ((kB b,.box ro ls)::u++us,i,nr)
def eY (r:Nat):List LS->List Nat
 |[]=>[]
 |.mu _::ss=>r::eY (r+1) ss
 |.ow _::ss=>eY (r+1) ss
 |_::ss=>eY r ss
def sZ (t:Nat):List aR->List (Nat×aS)
 |[]=>[]
 |l::ls=>(kT t,.slot none (.one l))::sZ (t+1) ls
def Rab (s:Sig):List aR:=(eY 0 (s.params.flatMap (·.2))).map aR.ex++(range 0 s.boxes.length).map fun b=>aR.px b 0
def nM (s:Sig):Nat:=(Rab s).length
def entry (s:Sig)(ntmps:Nat):St :=
 let (u,i,nr):=jU 0 0 0 s.params
 let (v,i,nr):=kS 0 i nr s.boxes
 (St.puts ⟨.nil,i,s.boxes.length,nr,ntmps+nM s⟩ (u++v++sZ ntmps (Rab s)))
structure Fin where
 xs:List aM
 own:List (Nat×Nat×Nat)
 q:Nat
 frz:List Nat
 lets:List Step
 bxs:List Nat
def Aap (F:Fin)(r m:Nat)(x:aM):Fin:={ F with xs:=F.xs++[x],own:=F.own++[(r,2*F.q,m)],q:=F.q+1 }
def Wad (F:Fin)(z:Nat):Fin:={ F with xs:=F.xs++[.c (.rows z [])],q:=F.q+1 }
def Rai (F:Fin)(m:Nat):aR->RdM Fin
 |.sn [] _ true (.c (.rows z []))=>.ret (Wad F z)
 | .ex r => do
  match <- rdK (kR r) with
  | some (.root x m' v .live) => do
   bP (Nat.ble m m')
   .ret (Aap F r m x)
  |_=>.no
 | .sn [(r, k)] .view _ x => do
  match <- rdK (kR r) with
  | some (.root _ m' v .live) => do
   bP (Nat.ble m m'&&Nat.beq v k)
   .ret (Aap F r m x)
  |_=>.no
 |_=>.no
def Rak (F:Fin)(l:aR):RdM Fin:=do
 let s <- yU l
 .ret { F with xs:=F.xs++[s.x],frz:=F.frz++s.deps.map (·.1) }
def Jaj (nv:Nat)(F:Fin):LR->aR->RdM Fin
 |.sc,.sc x=>.ret { F with xs:=F.xs++[x] }
 |.fz,l=>Rak F l
 |.ow m,l=>Rai F m l
 |.rp z,.pn=>.ret { F with xs:=F.xs++[.c (.rows z [])] }
 | .rp z, .rp deps z' x => do
  let d <- wO deps
  .ret { F with xs:=F.xs++[x],frz:=F.frz++d.map (·.1) }
 | .rp z, .pe l z' i 0 => do
  let s <- yU l
  .ret { F with xs:=F.xs++[.v (nv+bL F.lets)],frz:=F.frz++s.deps.map (·.1),lets:=F.lets++[.prim (.one z') [s.x,i] 1] }
 |_,_=>.no
def Ear (F:Fin):BO->aR->RdM Fin
 |.sc,.sc x=>.ret { F with xs:=F.xs++[x] }
 |.fz,l=>Rak F l
 |.ow m,l=>Rai F m l
 |.dead,l=>bif Pam l then .ret { F with xs:=F.xs++[.c .hole] } else .no
 |_,_=>.no
def jL:Fin->List BO->List aR->RdM Fin
 |F,[],[]=>.ret F
 | F, s :: ss, l :: ls => do
  let F <- Ear F s l
  jL F ss ls
 |_,_,_=>.no
def iL (nv:Nat):Fin->List LR->List aR->RdM Fin
 |F,[],[]=>.ret F
 | F, s :: ss, l :: ls => do
  let F <- (match s,l with
   | .bx cs, .px b 0 => do
    match <- rdK (kB b) with
    |some (.box false bs)=>jL { F with bxs:=F.bxs++[b] } cs bs
    |_=>.no
   |s,l=>Jaj nv F s l)
  iL nv F ss ls
 |_,_,_=>.no
def pW (E:Env)(nv:Nat):Fin->List (Bool×List LR)->List ResultVar->RdM Fin
 |F,[],[]=>.ret F
 | F, (a, ss) :: rs, .tmp t :: vs => do
  match <- rdK (kT t) with
  | some (.slot none v) => do
   bP (Bcx t E.ntmps)
   let ls <- nW (kF a v)
   let F <- iL nv F ss ls
   pW E nv F rs vs
  |_=>.no
 | F, (a, ss) :: rs, .cell t ty :: vs => do
  let ti <- nW (E.ti ty)
  bP ((a==ti.agg)&&Nat.beq ss.length ti.size&&(ti.agg||Nat.beq ti.size 1)&&Bcx t E.ntmps)
  match <- rdK (kT t) with
  | some (.slot none (.one (.px b off))) => do
   match <- rdK (kB b) with
   | some (.box _ ls) => do
    let F <- iL nv F ss ((ls.drop off).take ti.size)
    pW E nv F rs vs
   |_=>.no
  |_=>.no
 |_,_,_=>.no
def eB:List LS->List Nat
 |[]=>[]
 |.mu m::ss=>m::eB ss
 |_::ss=>eB ss
def Faz (t:Nat):Nat->List Nat->Fin->RdM Fin
 |_,[],F=>.ret F
 | j, d :: ds, F => do
  match <- rdK (kT (t+j)) with
  | some (.slot none (.one (.ex r))) => do
   match <- rdK (kR r) with
   | some (.root x m _ .live) => do
    bP (Nat.ble d m)
    Faz t (j+1) ds { F with xs:=F.xs++[x],own:=F.own++[(r,2*j+1,d)] }
   |_=>.no
  |_=>.no
def rF (t:Nat):Fin->Nat->List (Bool×List (BS×BO))->RdM Fin
 |F,_,[]=>.ret F
 | F, b, (ro, cs) :: r => do
  bif ro then rF t F (b+1) r else
  match <- rdK (kT (t+b)) with
  | some (.slot none (.one (.px b' 0))) => do
   bP (Nat.beq b' b)
   match <- rdK (kB b) with
   | some (.box false ls) => do
    let F <- jL F (cs.map (·.2)) ls
    rF t F (b+1) r
   |_=>.no
  |_=>.no
def Ibz (E:Env)(s:Sig)(results:List ResultVar)(nv:Nat):RdM Fin:=do
 let F <- pW E nv ⟨[],[],0,[],[],[]⟩ s.results results
 let ms:=eB (s.params.flatMap (·.2))
 let F <- Faz E.ntmps 0 ms F
 rF (E.ntmps+ms.length) F 0 s.boxes
def finish (E:Env)(s:Sig)(results:List ResultVar)(st:St):Option (Tm St) :=
 match (Ibz E s results st.nv).eval st.get with
 | some F =>
  bif distinct (F.own.map (·.1))&&!(meets (F.own.map (·.1)) F.frz)&&!(F.bxs.any fun b=>Bcx b s.boxes.length)&&eU st.nv F.lets then
   some (oN none (.leaf .ret F.xs st) F.lets) else none
 |none=>none
def Ibl (E:Env)(pA:Bool)(s:Sig)(body:Code)(live:Nat):Option (Tm St) :=
 let e:=entry s E.ntmps
 bif Haf e e.nr ((range 0 e.nt).map kT++(range 0 e.nb).map kB++(range 0 e.nr).map kR) then sxC E pA live body [] live e else kJ 7
def Jb0 (l:List ResultVar):Nat:=l.foldl (fun m r=>match r with|.tmp t=>m ||| 2 ^ t|.cell t _=>m ||| 2 ^ t) 0
def Tbb:Kind->Bool
 |.ret=>true
 |.fall=>true
 |_=>false
def Xac (E:Env)(s:Sig)(fn:Func):Option (Tm Unit) :=
 match fn.body with
 |none=>none
 | some c => bif !(Nat.ble s.params.length fn.ntmps) then none else do
  let E:={ E with ntmps:=fn.ntmps,ngh:=nM s,nbx:=s.boxes.length }
  let t <- Ibl E false s c (Jb0 fn.results.toList)
  let t <- t.turn .ret Tbb fun st=>(match finish E s fn.results.toList st with|some t=>some t|none=>some .stuck)
  some t.strip
inductive Sc:Value->D->Prop
 |int (k:IntKind) (n:Int):Sc (.int k n) (.int k n)
 |bool (b:Bool):Sc (.bool b) (.bool b)
 |str (l:List UInt8):Sc (.string ⟨l.toArray⟩) (.str l)
inductive Rd (ok:Nat->Prop) (w:World):Value->D->Prop
 |sc {v:Value} {d:D} (h:Sc v d):Rd ok w v d
 |hole (v:Value) (h1:v.oneCell'=true):Rd ok w v .hole
 | rows (A : Option Addr) (a : Addr) (n c sz : Nat) (rs : List (List D)) (vs : Nat -> Nat -> Value)
   (hn:rs.length=n) (hc:n<=c) (hA:n=0\/A=some a) (dw:∀ r∈rs,r.length=sz)
   (bd:∀ i r,rs[i]?=some r->∀ j d,r[j]?=some d->ok a.block/\w.cell? (a.add (i*sz+j))=some (vs i j))
   (cq:∀ i r,rs[i]?=some r->∀ j d,r[j]?=some d->Rd ok w (vs i j) d) :
   Rd ok w (.slice A n c) (.rows sz rs)
inductive Ow where
 |frz
 |slc (r:Nat) (p:List Nat)
 |box (b:Nat)
 |oth
 deriving DecidableEq
inductive Rp (own:Nat->Ow) (w:World) (r:Nat):List Nat->Nat->Value->D->Prop
 |sc {p:List Nat} {m:Nat} {v:Value} {d:D} (h:Sc v d):Rp own w r p m v d
 |hole {p:List Nat} {m:Nat} (v:Value) (h1:v.oneCell'=true):Rp own w r p m v .hole
 |fz {p:List Nat} {v:Value} {d:D} (h:Rd (fun b=>own b=.frz) w v d):Rp own w r p 0 v d
 | sl {p : List Nat} {m : Nat} (A : Option Addr) (a : Addr) (n c sz : Nat) (rs : List (List D)) (vs : Nat -> Nat -> Value)
   (hn:rs.length=n) (hc:n<=c) (hA:A=some a\/(A=none/\c=0)) (dw:∀ r∈rs,r.length=sz)
   (a6:A=some a->a.spot=none/\own a.block=.slc r p/\∀ k,k<c*sz->∃ u,w.cell? (a.add k)=some u/\w.frozen? (a.add k)=false)
   (bd:∀ i row,rs[i]?=some row->∀ j d,row[j]?=some d->w.cell? (a.add (i*sz+j))=some (vs i j))
   (cq:∀ i row,rs[i]?=some row->∀ j d,row[j]?=some d->Rp own w r (p++[i*sz+j]) m (vs i j) d) :
   Rp own w r p (m+1) (.slice A n c) (.rows sz rs)
def zZ (own:Nat->Ow)(w:World)(r:Nat):List Nat->Value->List Nat->Value->Prop
 |_,v,[],u=>u=v
 |q,v,k::p,u=>∃ a n c u',v=.slice (some a) n c/\own a.block=.slc r q/\w.cell? (a.add k)=some u'/\zZ own w r (q++[k]) u' p u
theorem fD {w w':World}{a:Addr}(h:w'.heap[a.block]?=w.heap[a.block]?):w'.cell? a=w.cell? a:=by
 unfold World.cell?;rw[h]
theorem kU {w w':World}{a:Addr}(h:w'.heap[a.block]?=w.heap[a.block]?):w'.frozen? a=w.frozen? a:=by
 unfold World.frozen?;rw[h]
theorem add_block (a:Addr)(k:Nat):(a.add k).block=a.block:=by unfold Addr.add;split<;>rfl
theorem add_add (a:Addr)(j k:Nat):(a.add j).add k=a.add (j+k):=by
 unfold Addr.add;by_cases hj:j=0<;>by_cases hk:k=0<;>simp_all<;>omega
theorem Rd.mono {ok ok':Nat->Prop}{w w':World}{v:Value}{d:D}(h:Rd ok w v d)
  (hf:∀ b,ok b->ok' b/\w'.heap[b]?=w.heap[b]?):Rd ok' w' v d:=by
 induction h with
 |sc h=>exact .sc h
 |hole v h1=>exact .hole v h1
 | rows A a n c sz rs vs hn hc hA dw bd cq ih =>
  refine .rows A a n c sz rs vs hn hc hA dw (fun i r hi j d hj=>?_) (fun i r hi j d hj=>ih i r hi j d hj);obtain⟨h1,h2⟩:=bd i r hi j d hj;obtain⟨h3,h4⟩:=hf _ h1;exact⟨h3,(fD (w:=w) (w':=w') (by rw[add_block];exact h4)).trans h2⟩
theorem Rp.mono {own own':Nat->Ow}{w w':World}{r r':Nat}{q q':List Nat}{p:List Nat}{m:Nat}{v:Value}{d:D}(h:Rp own w r p m v d)
  (hz:∀ b,own b=.frz->own' b=.frz/\w'.heap[b]?=w.heap[b]?) :
  ∀ s,p=q++s->(∀ b t,own b=.slc r (q++t)->own' b=.slc r' (q'++t)/\w'.heap[b]?=w.heap[b]?)->Rp own' w' r' (q'++s) m v d:=by
 induction h with
 |sc h=>exact fun _ _ _=>.sc h
 |hole v h1=>exact fun _ _ _=>.hole v h1
 |fz h=>exact fun _ _ _=>.fz (h.mono hz)
 | sl A a n c sz rs vs hn hc hA dw a6 bd cq ih =>
  rename_i p m;intro s hp hs;refine .sl A a n c sz rs vs hn hc hA dw (fun e=>?_) (fun i row hi j d hj=>?_) (fun i row hi j d hj=>?_)
  ·obtain⟨h1,h2,h3⟩:=a6 e
   rw[hp]at h2;obtain⟨h4,h5⟩:=hs _ _ h2;refine⟨h1,h4,fun k hk=>?_⟩;obtain⟨u,hu,hf⟩:=h3 k hk;exact⟨u,(fD (w:=w) (w':=w') (by rw[add_block];exact h5)).trans hu,(kU (w:=w) (w':=w') (by rw[add_block];exact h5)).trans hf⟩
  ·rcases hA with e|⟨e,e'⟩
   ·obtain⟨h1,h2,h3⟩:=a6 e
    rw[hp]at h2;obtain⟨h4,h5⟩:=hs _ _ h2;exact (fD (w:=w) (w':=w') (by rw[add_block];exact h5)).trans (bd i row hi j d hj)
   ·exfalso
    have:i<rs.length:=by
     rcases Acy i rs.length with h|h
     ·exact h
     ·simp[Bc2 h]at hi
    omega
  ·have:=ih i row hi j d hj (s++[i*sz+j]) (by rw[hp,Aci]) hs
   rwa[<- Aci]at this
theorem Rp.rd {own:Nat->Ow}{w:World}{r:Nat}{p:List Nat}{m:Nat}{v:Value}{d:D}(h:Rp own w r p m v d) :
  Rd (fun b=>own b=.frz\/∃ q,own b=.slc r q) w v d:=by
 induction h with
 |sc h=>exact .sc h
 |hole v h1=>exact .hole v h1
 |fz h=>exact h.mono fun b hb=>⟨.inl hb,rfl⟩
 | sl A a n c sz rs vs hn hc hA dw a6 bd cq ih =>
  refine .rows A a n c sz rs vs hn hc ?_ dw (fun i row hi j d hj=>?_) ih
  ·rcases hA with e|⟨e,e'⟩
   ·exact .inr e
   ·exact .inl (by omega)
  ·refine⟨?_,bd i row hi j d hj⟩
   rcases hA with e|⟨e,e'⟩
   ·exact .inr ⟨_,(a6 e).2.1⟩
   ·exfalso
    have:i<rs.length:=by
     rcases Acy i rs.length with h|h
     ·exact h
     ·simp[Bc2 h]at hi
    omega
theorem Rp.weaken {own own':Nat->Ow}{w:World}{r:Nat}{p:List Nat}{m:Nat}{v:Value}{d:D}(h:Rp own w r p m v d)
  (hz:∀ b,own b=.frz->own' b=.frz):∀ (m':Nat),m'<=m ->
  (∀ b t,own b=.slc r (p++t)->own' b=(if t.length<m' then .slc r (p++t) else .frz))->Rp own' w r p m' v d:=by
 induction h with
 |sc h=>exact fun _ _ _=>.sc h
 |hole v h1=>exact fun _ _ _=>.hole v h1
 | fz h =>
  intro m' hm hs;obtain rfl:m'=0:=by omega
  exact .fz (h.mono fun b hb=>⟨hz b hb,rfl⟩)
 | sl A a n c sz rs vs hn hc hA dw a6 bd cq ih =>
  rename_i p m;intro m' hm hs
  cases m' with
  | zero =>
   refine .fz (.rows A a n c sz rs vs hn hc ?_ dw (fun i row hi j d hj=>?_) (fun i row hi j d hj=>?_))
   ·rcases hA with e|⟨e,e'⟩
    ·exact .inr e
    ·exact .inl (by omega)
   ·refine⟨?_,bd i row hi j d hj⟩
    rcases hA with e|⟨e,e'⟩
    ·have:=hs a.block [] (by simpa using (a6 e).2.1)
     simpa using this
    ·exfalso
     have:i<rs.length:=by
      rcases Acy i rs.length with h|h
      ·exact h
      ·simp[Bc2 h]at hi
     omega
   ·have h1:=ih i row hi j d hj 0 (Nat.zero_le _) (fun b t hb=>by
     have:=hs b ([i*sz+j]++t) (by rw[<- Aci];exact hb);simpa using this)
    generalize vs i j=u at h1
    cases h1 with
    |sc h=>exact .sc h
    |hole _ h1=>exact .hole _ h1
    |fz h=>exact h
  | succ m' =>
   refine .sl A a n c sz rs vs hn hc hA dw (fun e=>?_) bd (fun i row hi j d hj=>?_)
   ·obtain⟨h1,h2,h3⟩:=a6 e
    refine⟨h1,?_,h3⟩;have:=hs a.block [] (by simpa using h2);simpa using this
   ·refine ih i row hi j d hj m' (by omega) (fun b t hb=>?_)
    have:=hs b ([i*sz+j]++t) (by rw[<- Aci];exact hb);simp only[List.length_append,List.length_singleton]at this;rw[this,<- Aci];by_cases ht:t.length<m'
    ·rw[if_pos ht,if_pos (by omega)]
    ·rw[if_neg ht,if_neg (by omega)]
theorem Sc.one {v:Value}{d:D}(h:Sc v d):v.oneCell'=true:=by cases h<;>rfl
theorem Rd.one {ok:Nat->Prop}{w:World}{v:Value}{d:D}(h:Rd ok w v d):v.oneCell'=true:=by
 cases h with
 |sc h=>exact h.one
 |hole _ h1=>exact h1
 |rows=>rfl
theorem Rp.one {own:Nat->Ow}{w:World}{r:Nat}{p:List Nat}{m:Nat}{v:Value}{d:D}(h:Rp own w r p m v d):v.oneCell'=true:=by
 cases h with
 |sc h=>exact h.one
 |hole _ h1=>exact h1
 |fz h=>exact h.one
 |sl=>rfl
structure Gh where
 own:Nat->Ow
 hdr:Nat->Value
 bx:Nat->Addr
def mJ (σ:Nat->Option aS)(r k:Nat):Prop:=∃ x m st,σ (kR r)=some (.root x m k st)/\(st=.live\/st=.frozen)
def zQ (σ:Nat->Option aS)(r k m:Nat):Prop:=∃ x,σ (kR r)=some (.root x m k .live)
def jK (σ:Nat->Option aS)(r k:Nat):Prop:=∃ x m bc st,σ (kR r)=some (.root x m bc st)/\(st=.live\/st=.frozen->k<=bc)
def allow (G:Gh)(deps:List (Nat×Nat))(b:Nat):Prop:=G.own b=.frz\/∃ r k p,(r,k)∈deps/\G.own b=.slc r p
def lF (ρ:List D)(x:aM):Nat:=match x.val ρ with
 |.int _ n=>n.toNat
 |_=>0
def bD (ρ:List D)(p:List (aM×Nat×Nat)):List Nat:=p.map fun x=>lF ρ x.1*x.2.1+x.2.2
def Jba (h v:Value)(sz L:Nat):Prop:=∃ A n c,h=.slice A n c/\L<=n/\v=.slice (if c=L then A else A.map (·.add (L*sz))) (n-L) (c-L)
def Dav (σ:Nat->Option aS)(ρ:List D)(G:Gh)(w:World)(deps:List (Nat×Nat))(v:Value)(d:D):Pth->Prop
 |.no=>True
 |.view=>∀ r k m,deps=[(r,k)]->zQ σ r k m->Rp G.own w r [] m v d
 |.suf sz lo=>∀ r k m,deps=[(r,k)]->zQ σ r k m->Jba (G.hdr r) v sz (lF ρ lo)
 |.path p=>∀ r k m,deps=[(r,k)]->zQ σ r k m->p.length<=m/\Rp G.own w r (bD ρ p) (m-p.length) v d/\zZ G.own w r [] (G.hdr r) (bD ρ p) v
mutual
def aB (σ:Nat->Option aS)(ρ:List D)(G:Gh)(w:World):aR->Value->Prop
 |.dead,v=>v.oneCell'=true
 |.sc x,v=>Sc v (x.val ρ)
 |.su g x,v=>(Sc v (x.val ρ)\/(v=undef/\x.val ρ=.undef))/\(gOn ρ (some g)=true->Sc v (x.val ρ))
 |.ex r,v=>v=G.hdr r/\(σ (kR r)).isSome/\v.oneCell'=true
 | .sn deps p nie x, v => (v.oneCell' = true /\ ∀ z ∈ deps, jK σ z.1 z.2) /\ ((∀ z ∈ deps, mJ σ z.1 z.2) ->
   Rd (allow G deps) w v (x.val ρ)/\(nie=true->∀ z,x.val ρ=.rows z []->v=.slice none 0 0)/\Dav σ ρ G w deps v (x.val ρ) p)
 |.px b off,v=>v=.pointer (some ((G.bx b).add off))/\(σ (kB b)).isSome
 |.pe l sz i off,v=>∃ a n c k iv,aB σ ρ G w l (.slice (some a) n c)/\i.val ρ=.int k iv/\0<=iv/\iv.toNat<n/\v=.pointer (some (a.add (iv.toNat*sz+off)))
 | .rp deps sz x, v => (v.oneCell' = true /\ ∀ z ∈ deps, jK σ z.1 z.2) /\ ((∀ z ∈ deps, mJ σ z.1 z.2) ->
   (v=.pointer none/\∃ z,x.val ρ=.rows z []) \/
   ∃ a row,v=.pointer (some a)/\x.val ρ=.rows row.length [row]/\Rd (allow G deps) w (.slice (some a) 1 1) (.rows row.length [row]))
 |.pn,v=>v=.pointer none
 |.clo f fu,v=>∃ vs,v=.func (.func f) #[] vs.toArray/\aG σ ρ G w fu vs
def aG (σ:Nat->Option aS)(ρ:List D)(G:Gh)(w:World):List aR->List Value->Prop
 |[],vs=>vs=[]
 |l::ls,vs=>∃ u us,vs=u::us/\aB σ ρ G w l u/\aG σ ρ G w ls us
end
def iT (σ:Nat->Option aS)(ρ:List D)(G:Gh)(w:World):List (Bool×List aR)->List Value->Prop
 |[],us=>us=[]
 |(a,ls)::r,us=>∃ u cX vs,us=u::cX/\aG σ ρ G w ls vs/\(if a=true then u=.agg vs.toArray else vs=[u])/\iT σ ρ G w r cX
def dB (σ:Nat->Option aS)(ρ:List D)(G:Gh)(w:World):SV->Value->Prop
 |.dead,_=>True
 |.one l,v=>aB σ ρ G w l v
 |.agg ls,v=>∃ vs,v=.agg vs.toArray/\aG σ ρ G w ls vs
 |.tup ts,v=>∃ us,v=.tuple us.toArray/\iT σ ρ G w ts us
def Bao (n:Nat)(a:Act)(gh:Nat->Value)(t:Nat):Value:=if t<n then a.tmps.getD t undef else gh (t-n)
def bV (σ:Nat->Option aS)(ρ:List D)(G:Gh)(w:World)(r:Nat)(x:aM)(m:Nat):RSt->Prop
 |.live=>Rp G.own w r [] m (G.hdr r) (x.val ρ)
 |.frozen=>Rd (fun b=>G.own b=.frz) w (G.hdr r) (x.val ρ)/\∀ b p,G.own b≠.slc r p
 |.gone=>True
 |.fwd r'=>G.hdr r=G.hdr r'/\(σ (kR r')).isSome
def Mav (σ:Nat->Option aS)(ρ:List D)(G:Gh)(w:World)(b:Nat)(ro:Bool)(ls:List aR):Prop :=
 (G.bx b).spot=none/\G.own (G.bx b).block=(if ro=true then .oth else .box b) /\
 ∀ j l,ls[j]?=some l->∃ v,w.cell? ((G.bx b).add j)=some v/\w.frozen? ((G.bx b).add j)=false/\aB σ ρ G w l v
structure bK where
 w0:World
 own0:Nat->Ow
 gh:Nat->Value
 rng:Nat->Nat×Nat
structure mW (F:bK) (G:Gh) (w:World):Prop where
 os:w.os=F.w0.os
 tape:w.tape=F.w0.tape
 output:w.output=F.w0.output
 size:F.w0.heap.size<=w.heap.size
 keep:∀ b,b<F.w0.heap.size->F.own0 b=.frz\/F.own0 b=.oth->w.heap[b]?=F.w0.heap[b]?/\G.own b=F.own0 b
 boxes:∀ b j,b<F.w0.heap.size->F.own0 b=.box j->G.own b=.box j/\∃ c0 c1 e fr,F.w0.heap[b]?=some (.cells c0 e fr)/\w.heap[b]?=some (.cells c1 e fr)/\c1.size=c0.size /\
  ∀ k,k<(F.rng j).1\/(F.rng j).2<=k->c1[k]?=c0[k]?
 fresh:∀ b,w.heap.size<=b->G.own b=.frz
def Dbb (n:Nat)(gh:Nat->Value)(σ:Nat->Option aS)(ρ:List D)(G:Gh)(a:Act)(w:World):Nat->aS->Prop
 |k,.slot g v=>∃ t,k=kT t/\(gOn ρ g=true->dB σ ρ G w v (Bao n a gh t))
 |k,.box ro ls=>∃ b,k=kB b/\Mav σ ρ G w b ro ls
 |k,.root x m bc st=>∃ r,k=kR r/\(σ (kR r)).isSome/\bV σ ρ G w r x m st
structure R (n:Nat) (F:bK) (σ:Nat->Option aS) (ρ:List D) (a:Act) (w:World) (G:Gh):Prop where
 tmps:a.tmps.size=n
 defers:a.defers=[]
 cont:∀ k c,σ k=some c->Dbb n F.gh σ ρ G a w k c
 frame:mW F G w
 rng:∀ b ls,σ (kB b)=some (.box false ls)->(G.bx b).block<F.w0.heap.size->F.own0 (G.bx b).block=.box b->F.rng b=((G.bx b).off,(G.bx b).off+ls.length)
theorem Ob2 {a b:Nat}(h:kT a=kT b):a=b:=by unfold kT at h;omega
theorem Ca0 {a b:Nat}(h:kB a=kB b):a=b:=by unfold kB at h;omega
theorem fC {a b:Nat}(h:kR a=kR b):a=b:=by unfold kR at h;omega
theorem lX {a b:Nat}:kT a≠kB b:=by unfold kT kB;omega
theorem iW {a b:Nat}:kT a≠kR b:=by unfold kT kR;omega
theorem fH {a b:Nat}:kB a≠kR b:=by unfold kB kR;omega
section
variable {n:Nat} {F:bK} {σ:Nat->Option aS} {ρ:List D} {a:Act} {w:World} {G:Gh}
theorem R.slot (h:R n F σ ρ a w G){t:Nat}{g:Option (aM×Bool)}{v:SV}(hk:σ (kT t)=some (.slot g v))(hg:gOn ρ g=true):dB σ ρ G w v (Bao n a F.gh t):=by
 obtain⟨t',e,h'⟩:=h.cont _ _ hk;obtain rfl:=Ob2 e;exact h' hg
theorem R.box (h:R n F σ ρ a w G){b:Nat}{ro:Bool}{ls:List aR}(hk:σ (kB b)=some (.box ro ls)):Mav σ ρ G w b ro ls:=by
 obtain⟨t',e,h'⟩:=h.cont _ _ hk;obtain rfl:=Ca0 e;exact h'
theorem R.root (h:R n F σ ρ a w G){r:Nat}{x:aM}{m bc:Nat}{st:RSt}(hk:σ (kR r)=some (.root x m bc st)):bV σ ρ G w r x m st:=by
 obtain⟨t',e,_,h'⟩:=h.cont _ _ hk;obtain rfl:=fC e;exact h'
end
structure Fr (σ:Nat->Option aS) (G:Gh) (w:World) (ej:Nat->Option aS) (G':Gh) (w':World):Prop where
 frz:∀ b,G.own b=.frz->b<w.heap.size->G'.own b=.frz/\w'.heap[b]?=w.heap[b]?
 valid:∀ r k,jK σ r k->mJ ej r k->mJ σ r k
 known:∀ r k,jK σ r k->jK ej r k
 slc:∀ r k b p,mJ σ r k->mJ ej r k->G.own b=.slc r p->(G'.own b=.slc r p\/G'.own b=.frz)/\w'.heap[b]?=w.heap[b]?
 live:∀ r k m,jK σ r k->zQ ej r k m->zQ σ r k m/\∀ b p,G.own b=.slc r p->G'.own b=.slc r p
 hdr:∀ r,(σ (kR r)).isSome->G'.hdr r=G.hdr r
 bx:∀ b,(σ (kB b)).isSome->G'.bx b=G.bx b
 keep:∀ k,(σ k).isSome->(ej k).isSome
 froz:∀ r x m k,σ (kR r)=some (.root x m k .frozen)->∀ b p,G'.own b=.slc r p->G.own b=.slc r p
theorem jK.some {σ:Nat->Option aS}{r k:Nat}(h:jK σ r k):(σ (kR r)).isSome:=by
 obtain⟨x,m,bc,st,e,_⟩:=h;rw[e];rfl
theorem mJ.known {σ:Nat->Option aS}{r k:Nat}(h:mJ σ r k):jK σ r k:=by
 obtain⟨x,m,st,e,_⟩:=h;exact⟨x,m,k,st,e,fun _=>Nat.le_refl _⟩
theorem jK.same {σ ej:Nat->Option aS}(h:∀ r,ej (kR r)=σ (kR r)){r k:Nat}(hk:jK σ r k):jK ej r k:=by
 obtain⟨x,m,bc,st,e,h1⟩:=hk;exact⟨x,m,bc,st,by rw[h];exact e,h1⟩
theorem zQ.valid {σ:Nat->Option aS}{r k m:Nat}(h:zQ σ r k m):mJ σ r k:=by
 obtain⟨x,e⟩:=h;exact⟨x,m,.live,e,.inl rfl⟩
theorem block_lt {w:World}{a:Addr}{v:Value}(h:w.cell? a=some v):a.block<w.heap.size:=by
 rcases Acy a.block w.heap.size with h1|h1
 ·exact h1
 ·unfold World.cell? at h
  rw[Array.getElem?_eq_none h1]at h;cases h
theorem Ja1 {w:World}{a:Addr}{v:Value}(h:w.cell? a=some v):a.block<w.heap.size:=block_lt h
theorem Rd.mono' {ok ok':Nat->Prop}{w w':World}{v:Value}{d:D}(h:Rd ok w v d)
  (hf:∀ b,ok b->b<w.heap.size->ok' b/\w'.heap[b]?=w.heap[b]?):Rd ok' w' v d:=by
 induction h with
 |sc h=>exact .sc h
 |hole v h1=>exact .hole v h1
 | rows A a n c sz rs vs hn hc hA dw bd cq ih =>
  refine .rows A a n c sz rs vs hn hc hA dw (fun i r hi j d hj=>?_) (fun i r hi j d hj=>ih i r hi j d hj);obtain⟨h1,h2⟩:=bd i r hi j d hj;have hlt:=Ja1 h2;rw[add_block]at hlt;obtain⟨h3,h4⟩:=hf _ h1 hlt;exact⟨h3,(fD (w:=w) (w':=w') (by rw[add_block];exact h4)).trans h2⟩
theorem Rp.mono' {own own':Nat->Ow}{w w':World}{r r':Nat}{q q':List Nat}{p:List Nat}{m:Nat}{v:Value}{d:D}(h:Rp own w r p m v d)
  (hz:∀ b,own b=.frz->b<w.heap.size->own' b=.frz/\w'.heap[b]?=w.heap[b]?) :
  ∀ s,p=q++s->(∀ b t,own b=.slc r (q++t)->own' b=.slc r' (q'++t)/\w'.heap[b]?=w.heap[b]?)->Rp own' w' r' (q'++s) m v d:=by
 induction h with
 |sc h=>exact fun _ _ _=>.sc h
 |hole v h1=>exact fun _ _ _=>.hole v h1
 |fz h=>exact fun _ _ _=>.fz (h.mono' hz)
 | sl A a n c sz rs vs hn hc hA dw a6 bd cq ih =>
  rename_i p m;intro s hp hs;refine .sl A a n c sz rs vs hn hc hA dw (fun e=>?_) (fun i row hi j d hj=>?_) (fun i row hi j d hj=>?_)
  ·obtain⟨h1,h2,h3⟩:=a6 e
   rw[hp]at h2;obtain⟨h4,h5⟩:=hs _ _ h2;refine⟨h1,h4,fun k hk=>?_⟩;obtain⟨u,hu,hf⟩:=h3 k hk;exact⟨u,(fD (w:=w) (w':=w') (by rw[add_block];exact h5)).trans hu,(kU (w:=w) (w':=w') (by rw[add_block];exact h5)).trans hf⟩
  ·rcases hA with e|⟨e,e'⟩
   ·obtain⟨h1,h2,h3⟩:=a6 e
    rw[hp]at h2;obtain⟨h4,h5⟩:=hs _ _ h2;exact (fD (w:=w) (w':=w') (by rw[add_block];exact h5)).trans (bd i row hi j d hj)
   ·exfalso
    have:i<rs.length:=by
     rcases Acy i rs.length with h|h
     ·exact h
     ·simp[Bc2 h]at hi
    omega
  ·have:=ih i row hi j d hj (s++[i*sz+j]) (by rw[hp,Aci]) hs
   rwa[<- Aci]at this
theorem zZ.mono {own own':Nat->Ow}{w w':World}{r r':Nat}:∀ (p q q':List Nat) (v u:Value),
  (∀ b t,own b=.slc r (q++t)->own' b=.slc r' (q'++t)/\w'.heap[b]?=w.heap[b]?)->zZ own w r q v p u->zZ own' w' r' q' v p u
 |[],_,_,_,_,_,h=>h
 | k :: p, q, q', v, u, hs, h => by
  obtain⟨a,n,c,u',rfl,ho,hc,hn⟩:=h;obtain⟨h1,h2⟩:=hs a.block [] (by simpa using ho);refine⟨a,n,c,u',rfl,by simpa using h1,(fD (w:=w) (w':=w') (by rw[add_block];exact h2)).trans hc,?_⟩
  exact zZ.mono p (q++[k]) (q'++[k]) u' u (fun b t hb=>by
   have:=hs b (k::t) (by simpa using hb);simpa using this) hn
section
variable {σ ej:Nat->Option aS} {ρ:List D} {G G':Gh} {w w':World}
theorem Dav.mono (h:Fr σ G w ej G' w'){deps:List (Nat×Nat)}(hex:∀ z∈deps,jK σ z.1 z.2){v:Value}{d:D}{p:Pth}(hp:Dav σ ρ G w deps v d p):Dav ej ρ G' w' deps v d p:=by
 cases p with
 |no=>trivial
 | view =>
  intro r k m e hl;obtain⟨fx,ho⟩:=h.live r k m (hex (r,k) (by simp[e])) hl;have:=(hp r k m e fx).mono' (q:=[]) (q':=[]) h.frz [] rfl (fun b t hb=>⟨ho b t hb,(h.slc r k b _ fx.valid hl.valid hb).2⟩);simpa using this
 | suf sz lo =>
  intro r k m e hl;obtain⟨fx,ho⟩:=h.live r k m (hex (r,k) (by simp[e])) hl;rw[h.hdr r (hex (r,k) (by simp[e])).some];exact hp r k m e fx
 | path p =>
  intro r k m e hl;obtain⟨fx,ho⟩:=h.live r k m (hex (r,k) (by simp[e])) hl;obtain⟨h1,h2,h3⟩:=hp r k m e fx;have hs:∀ b t,G.own b=.slc r ([]++t)->G'.own b=.slc r ([]++t)/\w'.heap[b]?=w.heap[b]?:=fun b t hb=>⟨ho b t hb,(h.slc r k b _ fx.valid hl.valid hb).2⟩
  refine⟨h1,?_,?_⟩
  ·have:=h2.mono' (q:=[]) (q':=[]) h.frz _ rfl hs
   rw[List.nil_append]at this;exact this
  ·rw[h.hdr r (hex (r,k) (by simp[e])).some]
   exact h3.mono _ _ _ _ _ hs
theorem allow.mono (h:Fr σ G w ej G' w'){deps:List (Nat×Nat)}(hex:∀ z∈deps,jK σ z.1 z.2)(hv:∀ z∈deps,mJ ej z.1 z.2){b:Nat}(hb:allow G deps b)(hlt:b<w.heap.size) :
  allow G' deps b/\w'.heap[b]?=w.heap[b]?:=by
 rcases hb with hb|⟨r,k,p,hm,hb⟩
 ·exact⟨.inl (h.frz b hb hlt).1,(h.frz b hb hlt).2⟩
 ·have yW:=hv (r,k) hm
  have:=h.slc r k b p (h.valid r k (hex (r,k) hm) yW) yW hb;exact⟨this.1.elim (fun e=>.inr ⟨r,k,p,hm,e⟩) .inl,this.2⟩
mutual
theorem aB.mono (h:Fr σ G w ej G' w'):∀ (l:aR) (v:Value),aB σ ρ G w l v->aB ej ρ G' w' l v
 |.dead,_,hl=>by simpa[aB] using hl
 |.sc x,v,hl=>by simpa[aB] using hl
 |.su g x,v,hl=>by simpa[aB] using hl
 | .ex r, v, hl => by
  simp only[aB]at hl ⊢;exact⟨by rw[h.hdr r hl.2.1];exact hl.1,h.keep _ hl.2.1,hl.2.2⟩
 | .sn deps p nie x, v, hl => by
  simp only[aB]at hl ⊢;refine⟨⟨hl.1.1,fun z hz=>h.known _ _ (hl.1.2 z hz)⟩,fun hv=>?_⟩;obtain⟨h1,h2,h3⟩:=hl.2 (fun z hz=>h.valid _ _ (hl.1.2 z hz) (hv z hz));exact⟨h1.mono' fun b hb hlt=>allow.mono h hl.1.2 hv hb hlt,h2,h3.mono h hl.1.2⟩
 | .px b off, v, hl => by
  simp only[aB]at hl ⊢;exact⟨by rw[h.bx b hl.2];exact hl.1,h.keep _ hl.2⟩
 | .pe l sz i off, v, hl => by
  simp only[aB]at hl ⊢;obtain⟨a,n,c,k,iv,h1,h2⟩:=hl;exact⟨a,n,c,k,iv,aB.mono h l _ h1,h2⟩
 | .rp deps sz x, v, hl => by
  simp only[aB]at hl ⊢;refine⟨⟨hl.1.1,fun z hz=>h.known _ _ (hl.1.2 z hz)⟩,fun hv=>?_⟩
  rcases hl.2 (fun z hz=>h.valid _ _ (hl.1.2 z hz) (hv z hz)) with h1|⟨a,row,h1,h2,h3⟩
  ·exact .inl h1
  ·exact .inr ⟨a,row,h1,h2,h3.mono' fun b hb hlt=>allow.mono h hl.1.2 hv hb hlt⟩
 |.pn,v,hl=>by simpa[aB] using hl
 | .clo f fu, v, hl => by
  simp only[aB]at hl ⊢;obtain⟨vs,h1,h2⟩:=hl;exact⟨vs,h1,aG.mono h fu vs h2⟩
theorem aG.mono (h:Fr σ G w ej G' w'):∀ (ls:List aR) (vs:List Value),aG σ ρ G w ls vs->aG ej ρ G' w' ls vs
 |[],vs,hl=>by simpa[aG] using hl
 | l :: ls, vs, hl => by
  simp only[aG]at hl ⊢;obtain⟨u,us,e,h1,h2⟩:=hl;exact⟨u,us,e,aB.mono h l u h1,aG.mono h ls us h2⟩
end
theorem iT.mono (h:Fr σ G w ej G' w'):∀ (ts:List (Bool×List aR)) (us:List Value),iT σ ρ G w ts us->iT ej ρ G' w' ts us
 |[],_,ht=>ht
 | (a, ls) :: r, us, ht => by
  obtain⟨u,cX,vs,e,h1,h2,h3⟩:=ht;exact⟨u,cX,vs,e,aG.mono h ls vs h1,h2,iT.mono h r cX h3⟩
theorem dB.mono (h:Fr σ G w ej G' w'){v:SV}{u:Value}(hv:dB σ ρ G w v u):dB ej ρ G' w' v u:=by
 cases v with
 |dead=>trivial
 |one l=>exact aB.mono h l u hv
 |agg ls=>obtain⟨vs,e,h1⟩:=hv;exact⟨vs,e,aG.mono h ls vs h1⟩
 |tup ts=>obtain⟨us,e,h1⟩:=hv;exact⟨us,e,iT.mono h ts us h1⟩
end
def Vad (σ:Nat->Option aS)(k:Nat)(c:aS):Nat->Option aS:=fun j=>if j=k then some c else σ j
def upds (σ:Nat->Option aS):List (Nat×aS)->Nat->Option aS
 |[]=>σ
 |(k,c)::r=>upds (Vad σ k c) r
theorem qK:∀ (u:List (Nat×aS)) (σ:Nat->Option aS) (k:Nat) (c:aS),upds σ u k=some c->(k,c)∈u\/((∀ c',(k,c')∉u)/\σ k=some c)
 |[],σ,k,c,h=>.inr ⟨by simp,h⟩
 | (k', c') :: r, σ, k, c, h => by
  rcases qK r (Vad σ k' c') k c h with h1|⟨h1,h2⟩
  ·exact .inl (Ack _ h1)
  ·unfold Vad at h2
   split at h2
   ·rename_i e
    obtain rfl:=Option.some.inj h2;exact .inl (by rw[e];exact Acs)
   ·rename_i e
    refine .inr ⟨fun c'' hc=>?_,h2⟩
    rcases Acj.1 hc with h3|h3
    ·exact e (Cc0 h3).1
    ·exact h1 _ h3
theorem fA:∀ (u:List (Nat×aS)) (σ:Nat->Option aS) (k:Nat),(∀ c,(k,c)∉u)->upds σ u k=σ k
 |[],_,_,_=>rfl
 | (k', c') :: r, σ, k, h => by
  rw[upds,fA r _ k fun c hc=>h c (Ack _ hc)];unfold Vad;rw[if_neg];intro e;exact h c' (by rw[e];exact Acs)
theorem eG:∀ (u:List (Nat×aS)) (σ:Nat->Option aS) (k:Nat),(σ k).isSome\/(∃ c,(k,c)∈u)->(upds σ u k).isSome
 | [], σ, k, h => by
  rcases h with h|⟨c,hc⟩
  ·exact h
  ·simp at hc
 | (k', c') :: r, σ, k, h => by
  refine eG r _ k ?_;unfold Vad
  rcases h with h|⟨c,hc⟩
  ·exact .inl (by split<;>simp_all)
  ·rcases Acj.1 hc with h1|h1
   ·exact .inl (by rw[if_pos (Cc0 h1).1];rfl)
   ·exact .inr ⟨c,h1⟩
section
variable {n:Nat} {F:bK} {σ:Nat->Option aS} {ρ:List D} {a a':Act} {w w':World} {G G':Gh}
theorem R.upd (h:R n F σ ρ a w G)(u:List (Nat×aS))(ew:Fr σ G w (upds σ u) G' w')(dw:a'.tmps.size=n)(hd:a'.defers=[])
  (hF:mW F G' w')
  (htm:∀ t,(∀ c,(kT t,c)∉u)->Bao n a' F.gh t=Bao n a F.gh t)
  (gl:∀ b ro ls,σ (kB b)=some (.box ro ls)->(∀ c,(kB b,c)∉u)->G'.own (G.bx b).block=G.own (G.bx b).block/\w'.heap[(G.bx b).block]?=w.heap[(G.bx b).block]?)
  (vp:∀ b ls,(kB b,.box false ls)∈u->(G'.bx b).block<F.w0.heap.size->F.own0 (G'.bx b).block=.box b->F.rng b=((G'.bx b).off,(G'.bx b).off+ls.length))
  (gz:∀ k c,(k,c)∈u->upds σ u k=some c->Dbb n F.gh (upds σ u) ρ G' a' w' k c):R n F (upds σ u) ρ a' w' G':=by
 refine⟨dw,hd,fun k c hk=>?_,hF,fun b ls hk hb ho=>?_⟩
 ·rcases qK u σ k c hk with h1|⟨h1,h2⟩
  ·exact gz k c h1 hk
  ·cases c with
   | slot g v =>
    obtain⟨t,rfl,hv⟩:=h.cont k _ h2;refine⟨t,rfl,fun hg=>?_⟩;rw[htm t h1];exact (hv hg).mono ew
   | box ro ls =>
    obtain⟨b,rfl,h3,h4,h5⟩:=h.cont k _ h2;obtain⟨h6,h7⟩:=gl b ro ls h2 h1;have e:G'.bx b=G.bx b:=ew.bx b (by rw[h2];rfl);refine⟨b,rfl,by rw[e];exact h3,by rw[e,h6];exact h4,fun j l hj=>?_⟩;obtain⟨v,h8,h9,cL⟩:=h5 j l hj;rw[e];exact⟨v,(fD (w:=w) (w':=w') (by rw[add_block];exact h7)).trans h8,(kU (w:=w) (w':=w') (by rw[add_block];exact h7)).trans h9,aB.mono ew l v cL⟩
   | root x m bc st =>
    obtain⟨r,rfl,h0,h3⟩:=h.cont k _ h2;refine⟨r,rfl,ew.keep _ h0,?_⟩;have e:G'.hdr r=G.hdr r:=ew.hdr r h0
    cases st with
    | live =>
     have fx:zQ (upds σ u) r bc m:=⟨x,hk⟩;obtain⟨hl,ho⟩:=ew.live r bc m ⟨x,m,bc,.live,h2,fun _=>Nat.le_refl _⟩ fx;have:=Rp.mono' (q:=[]) (q':=[]) h3 ew.frz [] rfl (fun b t hb=>⟨ho b t hb,(ew.slc r bc b _ hl.valid fx.valid hb).2⟩);simp only[bV];rw[e];simpa using this
    | frozen =>
     simp only[bV];rw[e];exact⟨h3.1.mono' ew.frz,fun b p hb=>h3.2 b p (ew.froz r x m bc h2 b p hb)⟩
    |gone=>trivial
    | fwd r' =>
     obtain⟨h4,h5⟩:=h3;exact⟨by rw[e,ew.hdr r' h5];exact h4,ew.keep _ h5⟩
 ·rcases qK u σ _ _ hk with h1|⟨h1,h2⟩
  ·exact vp b ls h1 hb ho
  ·have e:G'.bx b=G.bx b:=ew.bx b (by rw[h2];rfl)
   rw[e]at hb ho ⊢;exact h.rng b ls h2 hb ho
theorem Caf (a:Act)(d:Option Tmp)(v:Value):(a.put d v).tmps.size=a.tmps.size:=by
 cases d<;>simp[Act.put]
theorem put_defers (a:Act)(d:Option Tmp)(v:Value):(a.put d v).defers=a.defers:=by
 cases d<;>simp[Act.put]
theorem Hai (n:Nat)(a:Act)(G:Nat->Value)(d t:Nat)(v:Value)(h:d≠t):Bao n (a.put (some d) v) G t=Bao n a G t:=by
 unfold Bao;split
 ·simp[Act.put,Bck,Array.getElem?_setIfInBounds,h]
 ·rfl
theorem oM (n:Nat)(a:Act)(G:Nat->Value)(d:Nat)(v:Value)(h:d<n)(hs:a.tmps.size=n):Bao n (a.put (some d) v) G d=v:=by
 unfold Bao;rw[if_pos h];simp[Act.put,Bck,hs,h]
theorem Fr.same (σ:Nat->Option aS)(G:Gh)(w:World)(u:List (Nat×aS))(hu:∀ k c,(k,c)∈u->∃ t,k=kT t):Fr σ G w (upds σ u) G w:=by
 have hr:∀ r,upds σ u (kR r)=σ (kR r):=fun r=>fA _ _ _ fun c hc=>by obtain⟨t,e⟩:=hu _ _ hc;exact iW e.symm
 refine⟨fun b h _=>⟨h,rfl⟩,fun r k _ h=>?_,fun r k h=>?_,fun r k b p _ _ h=>⟨.inl h,rfl⟩,fun r k m _ h=>⟨?_,fun b p h=>h⟩,fun _ _=>rfl,fun _ _=>rfl,fun k h=>eG _ _ _ (.inl h),fun _ _ _ _ _ _ _ h=>h⟩
 ·obtain⟨x,m,st,e,h⟩:=h
  exact⟨x,m,st,by rw[<- hr];exact e,h⟩
 ·obtain⟨x,m,bc,st,e,h⟩:=h
  exact⟨x,m,bc,st,by rw[hr];exact e,h⟩
 ·obtain⟨x,e⟩:=h
  exact⟨x,by rw[<- hr];exact e⟩
def dY (o:Oper)(g:Option (aM×Bool))(v:SV):List (Nat×aS):=match o.dst with|some d=>[(kT d,.slot g v)]|none=>[]
theorem R.pure (h:R n F σ ρ a w G)(o:Oper)(hd:∀ d,o.dst=some d->d<n)(g:Option (aM×Bool))(sv:SV)(v:Value)
  (hv:gOn ρ g=true->dB σ ρ G w sv v):R n F (upds σ (dY o g sv)) ρ (a.put o.dst v) w G:=by
 have ew:Fr σ G w (upds σ (dY o g sv)) G w:=Fr.same _ _ _ _ fun k c hk=>by
  unfold dY at hk;split at hk
  ·rename_i d e
   simp only[Zb9,Ac0]at hk;exact⟨d,hk.1⟩
  ·simp at hk
 refine h.upd _ ew (by rw[Caf];exact h.tmps) (by rw[put_defers];exact h.defers) h.frame (fun t ht=>?_) (fun _ _ _ _ _=>⟨rfl,rfl⟩) (fun b ls hb=>?_) (fun k c hk kb=>?_)
 ·unfold dY at ht
  cases e:o.dst with
  |none=>rfl
  | some d =>
   rw[e]at ht;exact Hai _ _ _ _ _ _ fun e'=>ht _ (by rw[e'];exact Zb9.2 rfl)
 ·unfold dY at hb
  split at hb
  ·simp only[Zb9,Ac0]at hb
   exact absurd hb.1.symm lX
  ·simp at hb
 ·have zw:=hk
  unfold dY at hk
  cases e:o.dst with
  |none=>rw[e]at hk;simp at hk
  | some d =>
   rw[e]at hk;simp only[Zb9,Ac0]at hk;obtain⟨rfl,rfl⟩:=hk;refine⟨d,rfl,fun hg=>?_⟩;rw[oM _ _ _ _ _ (hd d e) h.tmps];exact (hv hg).mono ew
end
end Go.Proofs.YtcbkmmhkccnamaaGreat.Rf
