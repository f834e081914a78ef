import Derived.Calls
import Derived.Laws.Sem
set_option linter.all false
open Array renaming getD_eq_getD_getElem? → Sbo
open List renaming mem_singleton → Rbb, append_assoc → Rbd, mem_cons → Rbg, mem_cons_of_mem → Rbl, mem_cons_self → Rbr, replicate → Rbs, getElem?_eq_none → Tbl
open Nat renaming lt_or_ge → Rbu, blt → Sb0, testBit → Tbz, le_succ → Ubg
open Option renaming bind_eq_some_iff → Qb5, bind_some → Rbe, map_some → Sbq
open Prod.mk renaming injEq → Rbx, inj → Tbw
namespace Go.Proofs.YtgpamlpecmldfaaGreat.Rf
inductive D where
 |int (k:IntKind) (n:Int)
 |bool (b:Bool)
 |str (s:List UInt8)
 |rows (sz:Nat) (rs:List (List D))
 |undef
 |hole
 deriving Inhabited
inductive aP where
 |v (i:Nat)
 |c (d:D)
 deriving Inhabited
def aP.val (ρ:List D):aP->D
 |.v i=>ρ.getD i .undef
 |.c d=>d
def aP.ok (n:Nat):aP->Prop
 |.v i=>i<n
 |.c _=>True
theorem aP.val_append {n:Nat}{ρ gy:List D}{x:aP}(h:x.ok ρ.length):x.val (ρ++gy)=x.val ρ:=by
 cases x with
 |c d=>rfl
 | v i =>
  simp only[aP.ok]at h;simp[aP.val,List.getD_eq_getElem?_getD,List.getElem?_append_left h]
inductive aS where
 |bin (op:BinOp)
 |eqb (neg:Bool)
 |not | neg | inv
 |conv (k:IntKind)
 |len | slen
 |row (sz off:Nat) (ks:List Bool)
 |inb
 |set (sz off n:Nat)
 |app (sz bytes:Nat) (fl:Bool)
 |mk (sz n:Nat)
 |make (bytes:Nat) (zero:List D)
 |sub (sz:Nat) (fl:Bool)
 |ssub
 |pick
 |eqs (ks:List Nat)
 |min | max
 |bstr
 |sidx
 |sid
 |ne
 |emp
 |one (sz:Nat)
 |dep (m:Nat)
 |clr (sz:Nat)
 |id
 deriving Inhabited
def iM:Nat:=140737488355328
def Ca7 (op:BinOp)(k:IntKind)(a b:Int):Option D :=
 match op with
 |.add=>some (.int k (k.wrap (a+b)))
 |.sub=>some (.int k (k.wrap (a-b)))
 |.mul=>some (.int k (k.wrap (a*b)))
 |.quo=>if b=0 then none else some (.int k (k.wrap (a.tdiv b)))
 |.rem=>if b=0 then none else some (.int k (a.tmod b))
 |.and=>some (.int k (k.wrap (BitVec.ofInt k.bits a &&& BitVec.ofInt k.bits b).toNat))
 |.or=>some (.int k (k.wrap (BitVec.ofInt k.bits a ||| BitVec.ofInt k.bits b).toNat))
 |.xor=>some (.int k (k.wrap (BitVec.ofInt k.bits a ^^^ BitVec.ofInt k.bits b).toNat))
 |.andNot=>some (.int k (k.wrap (BitVec.ofInt k.bits a &&& ~~~ (BitVec.ofInt k.bits b)).toNat))
 |.eql=>some (.bool (a==b))
 |.neq=>some (.bool (a != b))
 |.lss=>some (.bool (a<b))
 |.leq=>some (.bool (a<=b))
 |.gtr=>some (.bool (a>b))
 |.geq=>some (.bool (a ≥ b))
 |_=>none
def Xap (op:BinOp)(k:IntKind)(a b:Int):Option D :=
 if b<0 then none else
 match op with
 |.shl=>some (.int k (k.wrap (a*2 ^ (min b.toNat k.bits))))
 |.shr=>some (.int k (a.fdiv (2 ^ (min b.toNat k.bits))))
 |_=>none
def Jbt (op:BinOp)(a b:List UInt8):Option D :=
 match op with
 |.add=>if a.length+b.length<=4611686018427387904 then some (.str (a++b)) else none
 |.eql=>some (.bool (a==b))
 |.neq=>some (.bool (!(a==b)))
 |.lss=>some (.bool (Op.bytesLess a b))
 |.leq=>some (.bool (Op.bytesLess a b||a==b))
 |.gtr=>some (.bool (!(Op.bytesLess a b||a==b)))
 |.geq=>some (.bool (!(Op.bytesLess a b)))
 |_=>none
def Rad (op:BinOp):D->D->Option D
 | .int k a, .int k' b =>
  match op with
  |.shl | .shr=>Xap op k a b
  |_=>if k=k' then Ca7 op k a b else none
 |.str a,.str b=>Jbt op a b
 |_,_=>none
def eqD:Nat->D->D->Option Bool
 |0,.int k a,.int k' b=>if k=k' then some (a==b) else none
 |1,.bool a,.bool b=>some (a==b)
 |2,.str a,.str b=>some (a==b)
 |_,_,_=>none
def Ral:List Nat->List D->List D->Option Bool
 |[],[],[]=>some true
 |k::ks,a::as,b::bs=>(eqD k a b).bind fun x=>if x then Ral ks as bs else some false
 |_,_,_=>none
def chunk (sz:Nat):Nat->List D->List (List D)
 |0,_=>[]
 |n+1,l=>l.take sz::chunk sz n (l.drop sz)
def bytesOf:List (List D)->Option (List UInt8)
 |[]=>some []
 |[.int .u8 n]::r=>(bytesOf r).map fun l=>UInt8.ofNat n.toNat::l
 |_=>none
def Mbl (op:BinOp):D->D->Option D
 |.int k a,.int k' b=>if k=k' then some (.int k (if (match op with | .lss=>b<a | _=>b>a:Bool) then b else a)) else none
 |_,_=>none
def Na1 (op:BinOp):D->List D->Option D
 |x,[]=>some x
 |x,y::r=>(Mbl op x y).bind fun z=>Na1 op z r
def D.isSc:D->Bool
 |.int _ _=>true
 |.bool _=>true
 |.str _=>true
 |_=>false
def rJ:Nat->D->Bool
 |_,.hole=>true
 |0,d=>d.isSc
 |m+1,.rows _ rs=>rs.all fun r=>r.all fun d=>rJ m d
 |_+1,d=>d.isSc
def Eat:List Bool->List D->Bool
 |[],_=>true
 |k::ks,d::ds=>(!k||d.isSc)&&Eat ks ds
 |_::_,[]=>false
def aS.run:aS->List D->Option (List D)
 |.bin op,[a,b]=>(Rad op a b).map fun d=>[d]
 |.eqb ng,[.bool a,.bool b]=>some [.bool (if ng then !(a==b) else a==b)]
 |.not,[.bool b]=>some [.bool (!b)]
 |.neg,[.int k n]=>some [.int k (k.wrap (0-n))]
 |.inv,[.int k n]=>(Ca7 .xor k (if k.signed then -1 else k.max) n).map fun d=>[d]
 |.conv k,[.int _ n]=>some [.int k (k.wrap n)]
 |.len,[.rows _ rs]=>some [.int .i64 rs.length]
 |.slen,[.str s]=>some [.int .i64 s.length]
 | .row sz off ks, [.rows n9 rs, .int _ i] =>
  if n9=sz/\0<=i then match rs[i.toNat]? with
   |some r=>if off+ks.length<=r.length/\Eat ks (r.drop off)=true then some ((r.drop off).take ks.length) else none
   |none=>none
  else none
 |.inb,[.rows _ rs,.int _ i]=>if 0<=i/\i<rs.length then some [] else none
 | .set sz off n, .rows n9 rs :: .int _ i :: vs =>
  if n9=sz/\0<=i then match rs[i.toNat]? with
   |some r=>if off+n<=r.length/\vs.length=n then some [.rows sz (rs.set i.toNat (r.take off++vs++r.drop (off+n)))] else none
   |none=>none
  else none
 |.app sz bytes fl,[.rows n9 a,.rows sz'' b]=>if n9=sz/\sz''=sz/\(!fl||(a++b).all fun r=>r.all D.isSc)=true/\(a.length+b.length)*bytes<=iM then some [.rows sz (a++b)] else none
 |.mk sz n,vs=>if vs.length=n*sz then some [.rows sz (chunk sz n vs)] else none
 |.make bytes zero,[.int _ n]=>if 0<=n/\n.toNat*bytes<=iM then some [.rows zero.length (Rbs n.toNat zero)] else none
 |.sub sz fl,[.rows n9 rs,.int _ lo,.int _ hi]=>if n9=sz/\(!fl||rs.all fun r=>r.all D.isSc)=true/\0<=lo/\lo<=hi/\hi<=rs.length then some [.rows sz ((rs.take hi.toNat).drop lo.toNat)] else none
 |.ssub,[.str s,.int _ lo,.int _ hi]=>if 0<=lo/\lo<=hi/\hi<=s.length then some [.str ((s.take hi.toNat).drop lo.toNat)] else none
 |.pick,[.bool c,a,b]=>some [if c then a else b]
 |.eqs ks,vs=>(Ral ks (vs.take ks.length) (vs.drop ks.length)).map fun b=>[.bool b]
 |.min,x::r=>(Na1 .lss x r).map fun d=>[d]
 |.max,x::r=>(Na1 .gtr x r).map fun d=>[d]
 |.bstr,[.rows _ rs]=>(bytesOf rs).map fun l=>[.str l]
 | .sidx, [.str s, .int _ i] => if 0 <= i then match s[i.toNat]? with
   |some b=>some [.int .u8 b.toNat]
   |none=>none
  else none
 |.ne,[.rows _ rs]=>if rs.isEmpty then none else some []
 |.emp,[.rows _ rs]=>some [.bool rs.isEmpty]
 |.dep m,[d]=>if rJ m d then some [] else none
 |.id,[a]=>some [a]
 |.clr sz,[.rows n9 rs,.int _ i]=>if n9=sz/\0<=i then some [.rows sz (rs.take i.toNat++(rs.drop i.toNat).map fun r=>r.map fun _=>.hole)] else none
 |.sid,[.str s]=>some [.str s]
 | .one sz, [.rows n9 rs, .int _ i] => if n9 = sz /\ 0 <= i then match rs[i.toNat]? with
   |some r=>some [.rows sz [r]]
   |none=>none
  else none
 |_,_=>none
inductive Kind where
 |fall | exit (id:Nat) | ret | cont | yield (i:Nat)
 deriving DecidableEq,Inhabited
inductive Tm (β:Type) where
 |leaf (kind:Kind) (xs:List aP) (ext:β)
 |stuck
 |lt (g:Option (aP×Bool)) (p:aS) (xs:List aP) (n:Nat) (k:Tm β)
 |call (g:Option (aP×Bool)) (f:Nat) (xs:List aP) (n:Nat) (olds:List aP) (k:Tm β)
 |ite (c:aP) (t e:Tm β)
 |bind (i:Nat) (t k:Tm β)
 |loop (init:List aP) (body:Tm β)
 deriving Inhabited
structure Out (β:Type) where
 kind:Kind
 xs:List aP
 ext:β
 env:List D
def Out.vals {β:Type}(o:Out β):List D:=o.xs.map (·.val o.env)
def gOn (ρ:List D):Option (aP×Bool)->Bool
 |none=>true
 | some (x, w) => match x.val ρ with
  |.bool b=>b==w
  |_=>false
def iter {β:Type}:Nat->(List D->Option (Out β))->List D->Option (Out β)
 |0,_,_=>none
 |n+1,f,vs=>(f vs).bind fun o=>if o.kind=.cont then iter n f o.vals else some o
def runT {β:Type}(cf:Nat->List D->Option (List D))(fuel:Nat):Tm β->List D->Option (Out β)
 |.leaf k xs e,ρ=>some ⟨k,xs,e,ρ⟩
 |.stuck,_=>none
 | .lt g p xs n k, ρ =>
  if gOn ρ g then (p.run (xs.map (·.val ρ))).bind fun ds=>if ds.length=n then runT cf fuel k (ρ++ds) else none
  else runT cf fuel k (ρ++Rbs n .undef)
 | .call g f xs n olds k, ρ =>
  if gOn ρ g then (cf f (xs.map (·.val ρ))).bind fun ds=>if ds.length=n then runT cf fuel k (ρ++ds) else none
  else runT cf fuel k (ρ++(Rbs (n-olds.length) .undef++olds.map (·.val ρ)))
 | .ite c t e, ρ => match c.val ρ with
  |.bool true=>runT cf fuel t ρ
  |.bool false=>runT cf fuel e ρ
  |_=>none
 |.bind i t k,ρ=>(runT cf fuel t ρ).bind fun o=>if o.kind=.yield i then runT cf fuel k (ρ++o.vals) else some o
 |.loop init body,ρ=>iter fuel (fun vs=>runT cf fuel body (ρ++vs)) (init.map (·.val ρ))
inductive Ent where
 |tm (t:Tm Unit)
 |ext (f:List D->Option (List D))
 |none
def Hbv {β:Type}(o:Out β):Option (List D):=if o.kind=.ret then some o.vals else none
def lK (T:Nat->Ent):Nat->Nat->List D->Option (List D)
 |0,_,_=>none
 | n + 1, f, args => match T f with
  |.tm t=>(runT (lK T n) n t args).bind Hbv
  |.ext e=>e args
  |.none=>none
def Ram {α:Type}(a:Nat->Option α):Prop:=∀ n r,a n=some r->a (n+1)=some r
theorem Ram.le {α:Type}{a:Nat->Option α}(h:Ram a){n m:Nat}{r:α}(hn:n<=m)(hr:a n=some r):a m=some r:=by
 induction hn with
 |refl=>exact hr
 |step _ ih=>exact h _ _ ih
open Classical in
noncomputable def lim {α:Type}(a:Nat->Option α):Option α :=
 if h:∃ r n,a n=some r then some h.choose else none
theorem gZ {α:Type}{a:Nat->Option α}(h:Ram a){r:α}:lim a=some r↔∃ n,a n=some r:=by
 unfold lim;constructor
 ·intro e
  split at e
  ·rename_i hx
   obtain⟨n,hn⟩:=hx.choose_spec;cases e;exact⟨n,hn⟩
  ·cases e
 ·rintro⟨n,hn⟩
  have hx:∃ r n,a n=some r:=⟨r,n,hn⟩;rw[dif_pos hx];obtain⟨m,hm⟩:=hx.choose_spec;have h1:=h.le (Nat.le_max_left n m) hn;have h2:=h.le (Nat.le_max_right n m) hm;rw[h1]at h2;exact h2.symm
theorem Ebx {α:Type}{a:Nat->Option α}(h:∀ n,a n=none):lim a=none:=by
 unfold lim;rw[dif_neg]
 rintro⟨r,n,hn⟩
 rw[h]at hn;cases hn
theorem iA {α:Type}(x:Option α):lim (fun _=>x)=x:=by
 cases x with
 |none=>exact Ebx fun _=>rfl
 |some r=>exact (gZ (a:=fun _=>some r) fun _ _ h=>h).2 ⟨0,rfl⟩
theorem Ram.bind {α γ:Type}{a:Nat->Option α}{b:Nat->α->Option γ}(ha:Ram a)(hb:∀ x,Ram fun n=>b n x):Ram fun n=>(a n).bind (b n):=by
 intro n r h;simp only[Qb5]at h ⊢;obtain⟨x,hx,hr⟩:=h;exact⟨x,ha _ _ hx,hb x _ _ hr⟩
theorem Gat {α γ:Type}{a:Nat->Option α}{b:Nat->α->Option γ}(ha:Ram a)(hb:∀ x,Ram fun n=>b n x) :
  lim (fun n=>(a n).bind (b n))=(lim a).bind fun x=>lim fun n=>b n x:=by
 apply Option.ext;intro r;rw[gZ (ha.bind hb)];simp only[Qb5];constructor
 ·rintro⟨n,x,hx,hr⟩
  exact⟨x,(gZ ha).2 ⟨n,hx⟩,(gZ (hb x)).2 ⟨n,hr⟩⟩
 ·rintro⟨x,hx,hr⟩
  obtain⟨n,hn⟩:=(gZ ha).1 hx;obtain⟨m,hm⟩:=(gZ (hb x)).1 hr;exact⟨max n m,x,ha.le (Nat.le_max_left ..) hn,(hb x).le (Nat.le_max_right ..) hm⟩
def Le {α γ:Type}(f g:α->Option γ):Prop:=∀ x r,f x=some r->g x=some r
theorem oJ {β:Type}{f g:List D->Option (Out β)}(h:Le f g):∀ {n m:Nat},n<=m->Le (iter n f) (iter m g)
 |0,_,_,_,_,hr=>by cases hr
 |n+1,0,tp,_,_,_=>absurd tp (by omega)
 | n + 1, m + 1, tp, vs, r, hr => by
  simp only[iter,Qb5]at hr ⊢;obtain⟨o,ho,hr⟩:=hr;refine⟨o,h _ _ ho,?_⟩;split at hr
  ·rename_i hk
   rw[if_pos hk];exact oJ h (by omega) _ _ hr
  ·rename_i hk
   rw[if_neg hk];exact hr
theorem Hap {β:Type}{cf cg:Nat->List D->Option (List D)}(h:∀ f,Le (cf f) (cg f)){n m:Nat}(tp:n<=m)(t:Tm β):Le (runT cf n t) (runT cg m t):=by
 induction t with
 |leaf=>exact fun _ _ h=>h
 |stuck=>exact fun _ _ h=>h
 | lt g p xs k' k ih =>
  intro ρ r hr;simp only[runT]at hr ⊢;split at hr
  ·rename_i hg
   rw[if_pos hg];simp only[Qb5]at hr ⊢;obtain⟨ds,hd,hr⟩:=hr;refine⟨ds,hd,?_⟩;split at hr
   ·rename_i hl;rw[if_pos hl];exact ih _ _ hr
   ·cases hr
  ·rename_i hg
   rw[if_neg hg];exact ih _ _ hr
 | call g f xs k' olds k ih =>
  intro ρ r hr;simp only[runT]at hr ⊢;split at hr
  ·rename_i hg
   rw[if_pos hg];simp only[Qb5]at hr ⊢;obtain⟨ds,hd,hr⟩:=hr;refine⟨ds,h _ _ _ hd,?_⟩;split at hr
   ·rename_i hl;rw[if_pos hl];exact ih _ _ hr
   ·cases hr
  ·rename_i hg
   rw[if_neg hg];exact ih _ _ hr
 | ite c t e yw ihe =>
  intro ρ r hr;simp only[runT]at hr ⊢;split at hr
  ·exact yw _ _ hr
  ·exact ihe _ _ hr
  ·cases hr
 | bind i t k yw ihk =>
  intro ρ r hr;simp only[runT,Qb5]at hr ⊢;obtain⟨o,ho,hr⟩:=hr;refine⟨o,yw _ _ ho,?_⟩;split at hr
  ·rename_i hk;rw[if_pos hk];exact ihk _ _ hr
  ·rename_i hk;rw[if_neg hk];exact hr
 | loop init body ih =>
  intro ρ r hr;simp only[runT]at hr ⊢;exact oJ (fun vs r hr=>ih _ _ hr) tp _ _ hr
theorem Ea7 (T:Nat->Ent):∀ {n m:Nat},n<=m->∀ f,Le (lK T n f) (lK T m f)
 |0,_,_,_,_,_,hr=>by cases hr
 |n+1,0,tp,_,_,_,_=>absurd tp (by omega)
 | n + 1, m + 1, tp, f, args, r, hr => by
  simp only[lK]at hr ⊢;split at hr
  ·simp only[Qb5]at hr ⊢
   obtain⟨o,ho,hr⟩:=hr;exact⟨o,Hap (fun f=>Ea7 T (by omega) f) (by omega) _ _ _ ho,hr⟩
  ·exact hr
  ·cases hr
section
variable (T:Nat->Ent)
noncomputable def Fun (f:Nat)(args:List D):Option (List D):=lim fun n=>lK T n f args
noncomputable def Ev {β:Type}(t:Tm β)(ρ:List D):Option (Out β):=lim fun n=>runT (lK T n) n t ρ
noncomputable def Lp {β:Type}(body:Tm β)(ρ vs:List D):Option (Out β):=lim fun n=>iter n (fun vs=>runT (lK T n) n body (ρ++vs)) vs
variable {T}
theorem Mb9 (f:Nat)(args:List D):Ram fun n=>lK T n f args:=fun n _ h=>Ea7 T (Ubg n) f _ _ h
theorem Fb2 {β:Type}(t:Tm β)(ρ:List D):Ram fun n=>runT (lK T n) n t ρ:=fun n _ h=>Hap (fun f=>Ea7 T (Ubg n) f) (Ubg n) t _ _ h
theorem Qb4 {β:Type}(body:Tm β)(ρ vs:List D):Ram fun n=>iter n (fun vs=>runT (lK T n) n body (ρ++vs)) vs :=
 fun n _ h=>oJ (fun vs r hr=>Fb2 body _ n r hr) (Ubg n) _ _ h
theorem Ga2 {f:Nat}{args r:List D}:Fun T f args=some r↔∃ n,lK T n f args=some r:=gZ (Mb9 f args)
theorem Oaj {β:Type}{t:Tm β}{ρ:List D}{o:Out β}:Ev T t ρ=some o↔∃ n,runT (lK T n) n t ρ=some o:=gZ (Fb2 t ρ)
theorem Ib3 {β:Type}(k:Kind)(xs:List aP)(e:β)(ρ:List D):Ev T (.leaf k xs e) ρ=some ⟨k,xs,e,ρ⟩:=iA _
theorem Nbc {β:Type}(g:Option (aP×Bool))(p:aS)(xs:List aP)(n:Nat)(k:Tm β)(ρ:List D) :
  Ev T (.lt g p xs n k) ρ=if gOn ρ g then (p.run (xs.map (·.val ρ))).bind fun ds=>if ds.length=n then Ev T k (ρ++ds) else none
   else Ev T k (ρ++Rbs n .undef):=by
 unfold Ev;simp only[runT];split
 ·rw[Gat (a:=fun _=>p.run _) (fun _ _ h=>h)
   (fun ds=>by split;exact Fb2 k _;exact fun _ _ h=>h)]
  rw[iA];congr 1;funext ds;split
  ·rfl
  ·exact iA _
 ·rfl
theorem Bbm {β:Type}(g:Option (aP×Bool))(f:Nat)(xs:List aP)(n:Nat)(olds:List aP)(k:Tm β)(ρ:List D) :
  Ev T (.call g f xs n olds k) ρ=if gOn ρ g then (Fun T f (xs.map (·.val ρ))).bind fun ds=>if ds.length=n then Ev T k (ρ++ds) else none
   else Ev T k (ρ++(Rbs (n-olds.length) .undef++olds.map (·.val ρ))):=by
 unfold Ev;simp only[runT];split
 ·rw[Gat (a:=fun n=>lK T n f _) (Mb9 f _)
   (fun ds=>by split;exact Fb2 k _;exact fun _ _ h=>h)]
  rw[<- Fun];congr 1;funext ds;split
  ·rfl
  ·exact iA _
 ·rfl
theorem Nbd {β:Type}(c:aP)(t e:Tm β)(ρ:List D) :
  Ev T (.ite c t e) ρ=match c.val ρ with
   |.bool true=>Ev T t ρ
   |.bool false=>Ev T e ρ
   |_=>none:=by
 unfold Ev;simp only[runT];split
 ·rfl
 ·rfl
 ·exact iA _
theorem Ib4 {β:Type}(i:Nat)(t k:Tm β)(ρ:List D) :
  Ev T (.bind i t k) ρ=(Ev T t ρ).bind fun o=>if o.kind=.yield i then Ev T k (ρ++o.vals) else some o:=by
 unfold Ev;simp only[runT];rw[Gat (a:=fun n=>runT (lK T n) n t ρ) (Fb2 t ρ) (fun o=>by split;exact Fb2 k _;exact fun _ _ h=>h)];congr 1;funext o;split
 ·rfl
 ·exact iA _
theorem Ib2 {β:Type}(init:List aP)(body:Tm β)(ρ:List D):Ev T (.loop init body) ρ=Lp T body ρ (init.map (·.val ρ)):=rfl
theorem Ib1 {β:Type}(body:Tm β)(ρ vs:List D) :
  Lp T body ρ vs=(Ev T body (ρ++vs)).bind fun o=>if o.kind=.cont then Lp T body ρ o.vals else some o:=by
 have hm:∀ vs,Ram fun n=>iter n (fun vs=>runT (lK T n) n body (ρ++vs)) vs:=fun vs=>Qb4 body ρ vs
 unfold Lp
 have e:∀ vs r,(lim fun n=>iter n (fun vs=>runT (lK T n) n body (ρ++vs)) vs)=some r↔((Ev T body (ρ++vs)).bind fun o=>if o.kind=.cont then (lim fun n=>iter n (fun vs=>runT (lK T n) n body (ρ++vs)) o.vals) else some o)=some r:=by
  intro vs r;rw[gZ (hm vs)];simp only[Qb5];constructor
  ·rintro⟨n,hn⟩
   cases n with
   |zero=>cases hn
   | succ n =>
    simp only[iter,Qb5]at hn;obtain⟨o,ho,hr⟩:=hn;refine⟨o,Oaj.2 ⟨n+1,ho⟩,?_⟩;split at hr
    ·rename_i hk
     rw[if_pos hk,gZ (hm _)];exact⟨n+1,oJ (fun _ _ h=>h) (Ubg n) _ _ hr⟩
    ·rename_i hk
     rw[if_neg hk];exact hr
  ·rintro⟨o,ho,hr⟩
   obtain⟨n,hn⟩:=Oaj.1 ho;split at hr
   ·rename_i hk
    obtain⟨m,n2⟩:=(gZ (hm _)).1 hr;refine⟨max n m+1,?_⟩;simp only[iter,Qb5];refine⟨o,(Fb2 body (ρ++vs)).le (by omega) hn,?_⟩;rw[if_pos hk];exact oJ (fun vs r h=>(Fb2 body (ρ++vs)).le (by omega) h) (by omega) _ _ n2
   ·rename_i hk
    refine⟨n+1,?_⟩;simp only[iter,Qb5];exact⟨o,Fb2 body _ _ _ hn,by rw[if_neg hk];exact hr⟩
 exact Option.ext (e vs)
theorem Mb8 {f:Nat}{t:Tm Unit}(h:T f=.tm t)(args:List D):Fun T f args=(Ev T t args).bind Hbv:=by
 apply Option.ext;intro r;rw[Ga2];simp only[Qb5];constructor
 ·rintro⟨n,hn⟩
  cases n with
  |zero=>cases hn
  | succ n =>
   simp only[lK,h,Qb5]at hn;obtain⟨o,ho,hr⟩:=hn;exact⟨o,Oaj.2 ⟨n,ho⟩,hr⟩
 ·rintro⟨o,ho,hr⟩
  obtain⟨n,hn⟩:=Oaj.1 ho;refine⟨n+1,?_⟩;simp only[lK,h,Qb5];exact⟨o,hn,hr⟩
theorem Fac {f:Nat}{e:List D->Option (List D)}(h:T f=.ext e)(args:List D):Fun T f args=e args:=by
 apply Option.ext;intro r;rw[Ga2];constructor
 ·rintro⟨n,hn⟩
  cases n with
  |zero=>cases hn
  |succ n=>simpa[lK,h] using hn
 ·intro hr
  exact⟨1,by simpa[lK,h] using hr⟩
end
def Tm.strip {β:Type}:Tm β->Tm Unit
 |.leaf k xs _=>.leaf k xs ()
 |.stuck=>.stuck
 |.lt g p xs n k=>.lt g p xs n k.strip
 |.call g f xs n olds k=>.call g f xs n olds k.strip
 |.ite c t e=>.ite c t.strip e.strip
 |.bind i t k=>.bind i t.strip k.strip
 |.loop init body=>.loop init body.strip
def Out.strip {β:Type}(o:Out β):Out Unit:=⟨o.kind,o.xs,(),o.env⟩
theorem Out.strip_vals {β:Type}(o:Out β):o.strip.vals=o.vals:=rfl
theorem Kau {β:Type}{f:List D->Option (Out β)}{g:List D->Option (Out Unit)}(h:∀ vs,g vs=(f vs).map Out.strip):∀ n vs,iter n g vs=(iter n f vs).map Out.strip
 |0,_=>rfl
 | n + 1, vs => by
  simp only[iter,h]
  cases f vs with
  |none=>rfl
  | some o =>
   simp only[Sbq,Rbe];by_cases hk:o.kind=.cont
   ·have:o.strip.kind=.cont:=hk
    rw[if_pos hk,if_pos this,Out.strip_vals];exact Kau h n _
   ·have:¬ o.strip.kind=.cont:=hk
    rw[if_neg hk,if_neg this];rfl
theorem Vav {β:Type}(cf:Nat->List D->Option (List D))(n:Nat)(t:Tm β):∀ ρ,runT cf n t.strip ρ=(runT cf n t ρ).map Out.strip:=by
 induction t with
 |leaf=>exact fun _=>rfl
 |stuck=>exact fun _=>rfl
 | lt g p xs k' k ih =>
  intro ρ;simp only[Tm.strip,runT];split
  ·cases p.run (xs.map (·.val ρ)) with
   |none=>rfl
   | some ds =>
    simp only[Rbe];split
    ·exact ih _
    ·rfl
  ·exact ih _
 | call g f xs k' olds k ih =>
  intro ρ;simp only[Tm.strip,runT];split
  ·cases cf f (xs.map (·.val ρ)) with
   |none=>rfl
   | some ds =>
    simp only[Rbe];split
    ·exact ih _
    ·rfl
  ·exact ih _
 | ite c t e yw ihe =>
  intro ρ;simp only[Tm.strip,runT];split
  ·exact yw _
  ·exact ihe _
  ·rfl
 | bind i t k yw ihk =>
  intro ρ;simp only[Tm.strip,runT,yw]
  cases runT cf n t ρ with
  |none=>rfl
  | some o =>
   simp only[Sbq,Rbe];by_cases hk:o.kind=.yield i
   ·have:o.strip.kind=.yield i:=hk
    rw[if_pos hk,if_pos this,Out.strip_vals];exact ihk _
   ·have:¬ o.strip.kind=.yield i:=hk
    rw[if_neg hk,if_neg this];rfl
 | loop init body ih =>
  intro ρ;simp only[Tm.strip,runT];exact Kau (fun vs=>ih _) _ _
inductive Tr (α:Type) where
 |nil
 |node (x:Option α) (l r:Tr α)
 |over (n:Nat) (x:Option α) (t:Tr α)
 deriving Inhabited
def Tr.get {α:Type}:Tr α->Nat->Option α
 |.nil,_=>none
 |.node x l r,n=>bif Nat.beq n 0 then x else bif Nat.beq (n % 2) 1 then l.get (n / 2) else r.get (n / 2-1)
 |.over m x t,n=>bif Nat.beq n m then x else t.get n
def Tr.set {α:Type}:Nat->Tr α->Nat->Option α->Tr α
 |0,t,n,x=>.over n x t
 |k+1,.node y l r,n,x=>bif Nat.beq n 0 then .node x l r else bif Nat.beq (n % 2) 1 then .node y (Tr.set k l (n / 2) x) r else .node y l (Tr.set k r (n / 2-1) x)
 |k+1,.nil,n,x=>bif Nat.beq n 0 then .node x .nil .nil else bif Nat.beq (n % 2) 1 then .node none (Tr.set k .nil (n / 2) x) .nil else .node none .nil (Tr.set k .nil (n / 2-1) x)
 |_+1,.over m y t,n,x=>.over n x (.over m y t)
inductive CK where
 |sc (z:D)
 |sl (sz:Nat)
 |pn
 |ot
 deriving Inhabited
structure TI where
 agg:Bool
 size:Nat
 bytes:Nat
 cells:List CK
 flds:List (Nat×Nat)
 elem:Option Nat
 ik:Option IntKind
 isBool:Bool
 isStr:Bool
 isPtr:Bool
 cmp:Bool
 deriving Inhabited
def flat (P:Program):Nat->TypeId->Option (List TypeId)
 |0,_=>none
 | d + 1, t =>
  match P.underlying t with
  |some (.struct fs)=>fs.toList.foldl (fun acc f=>acc.bind fun l=>(flat P d f.type).bind fun m=>bif Nat.beq f.offset l.length then some (l++m) else none) (some [])
  |some (.array _ _)=>none
  |some _=>some [t]
  |none=>none
def qD (P:Program)(t:TypeId):CK :=
 match P.underlying t with
 |some (.int k)=>.sc (.int k 0)
 |some .bool=>.sc (.bool false)
 |some .string=>.sc (.str [])
 |some (.slice e)=>.sl (((P.info? e).map (·.size)).getD 0)
 |some (.pointer _)=>.pn
 |_=>.ot
def zeroCell:Value->CK->Bool
 |.int k n,.sc (.int k' n')=>decide (k=k')&&decide (n=0)&&decide (n'=0)
 |.bool b,.sc (.bool b')=>decide (b=false)&&decide (b'=false)
 |.string s,.sc (.str l)=>decide (s.data.toList=[])&&decide (l=[])
 |.slice none 0 0,.sl _=>true
 |.pointer none,.pn=>true
 |_,_=>false
def Tai (agg:Bool)(z:Option Value)(cs:List CK):Bool :=
 match agg,z,cs with
 |true,some (.agg vs),cs=>vs.toList.length==cs.length&&(vs.toList.zip cs).all fun p=>zeroCell p.1 p.2
 |false,some v,[c]=>zeroCell v c
 |_,_,_=>false
def Nbl (P:Program)(d:Nat)(t:TypeId):Bool :=
 match flat P d t,P.info? t with
 |some l,some i=>Nat.beq l.length i.size
 |_,_=>false
def Oaa (P:Program):Nat->TypeId->Bool
 |0,_=>false
 | d + 1, t =>
  match P.underlying t with
  |some (.int _)=>true
  |some .bool=>true
  |some .string=>true
  | some (.struct fs) => !(P.stoodInHeld t) && fs.toList.all fun f => f.name != "_" && Oaa P d f.type && Nbl P d f.type
  |_=>false
def Jap:TypeDesc->Bool
 |.struct _=>true
 |.array _ _=>true
 |_=>false
def Abd:TypeDesc->List (Nat×Nat)
 |.struct fs=>fs.toList.map fun f=>(f.offset,f.type)
 |_=>[]
def Abp:TypeDesc->Option Nat
 |.slice e=>some e
 |_=>none
def Nbr:TypeDesc->Option IntKind
 |.int k=>some k
 |_=>none
def Sap:TypeDesc->Bool
 |.bool=>true
 |_=>false
def Zau:TypeDesc->Bool
 |.string=>true
 |_=>false
def Zav:TypeDesc->Bool
 |.pointer _=>true
 |_=>false
def Qbe (P:Program)(t:TypeId)(i:TypeInfo)(u:TypeDesc)(cs:List CK):TI :=
  { agg:=Jap u,size:=i.size,bytes:=i.bytes,cells:=cs,flds:=Abd u,elem:=Abp u,ik:=Nbr u,isBool:=Sap u,isStr:=Zau u,
    isPtr:=Zav u,cmp:=Jap u&&Oaa P 12 t&&!(P.eqGuardType P.depth t) }
def nL (P:Program)(t:TypeId):Option TI :=
 match P.info? t,P.underlying t,(flat P 12 t).map (·.map (qD P)) with
 |some i,some u,some cs=>bif Nat.beq cs.length i.size&&Tai (Jap u) i.zero cs then some (Qbe P t i u cs) else none
 |_,_,_=>none
inductive Pth where
 |no
 |view
 |path (p:List (aP×Nat×Nat))
 |suf (sz:Nat) (lo:aP)
 deriving Inhabited
inductive aT where
 |dead
 |sc (x:aP)
 |su (g:aP×Bool) (x:aP)
 |ex (r:Nat)
 |sn (deps:List (Nat×Nat)) (p:Pth) (nie:Bool) (x:aP)
 |px (b off:Nat)
 |pe (l:aT) (sz:Nat) (i:aP) (off:Nat)
 |rp (deps:List (Nat×Nat)) (sz:Nat) (x:aP)
 |pn
 |clo (f:Nat) (gi:List aT)
 deriving Inhabited
inductive SV where
 |dead
 |one (l:aT)
 |agg (ls:List aT)
 |tup (vs:List (Bool×List aT))
 deriving Inhabited
inductive RSt where
 |live | frozen | gone
 |fwd (r:Nat)
 deriving DecidableEq,Inhabited
inductive aU where
 |slot (g:Option (aP×Bool)) (v:SV)
 |box (ro:Bool) (ls:List aT)
 |root (x:aP) (m cQ:Nat) (st:RSt)
 deriving Inhabited
def kT (t:Nat):Nat:=3*t
def kB (b:Nat):Nat:=3*b+1
def kR (r:Nat):Nat:=3*r+2
inductive RdM (α:Type) where
 |ret (a:α)
 |no
 |rd (k:Nat) (f:Option aU->RdM α)
def RdM.bind {α γ:Type}:RdM α->(α->RdM γ)->RdM γ
 |.ret a,f=>f a
 |.no,_=>.no
 |.rd k h,f=>.rd k fun c=>(h c).bind f
instance:Monad RdM:={ pure:=.ret,bind:=.bind }
def RdM.run {α:Type}(look:Nat->Option aU):RdM α->Option (α×List Nat)
 |.ret a=>some (a,[])
 |.no=>none
 |.rd k f=>((f (look k)).run look).map fun x=>(x.1,k::x.2)
def RdM.eval {α:Type}(look:Nat->Option aU):RdM α->Option α
 |.ret a=>some a
 |.no=>none
 |.rd k f=>(f (look k)).eval look
def rdK (k:Nat):RdM (Option aU):=.rd k .ret
def pR {α:Type}:Option α->RdM α
 |some a=>.ret a
 |none=>.no
def bZ (b:Bool):RdM Unit:=bif b then .ret () else .no
inductive Step where
 |prim (p:aS) (xs:List aP) (n:Nat)
 |call (f:Nat) (xs:List aP) (n:Nat) (olds:List aP)
 deriving Inhabited
def Step.n:Step->Nat
 |.prim _ _ n=>n
 |.call _ _ n _=>n
structure cK where
 lets:List Step
 upd:List (Nat×aU)
 deriving Inhabited
def bT (l:List Step):Nat:=l.foldl (fun s x=>s+x.n) 0
inductive LS where
 |sc
 |fz (nie:Bool)
 |mu (m:Nat)
 |ow (m:Nat)
 |px (b:Nat)
 |clo (f:Nat) (gi:List LS)
 |rp (sz:Nat)
 deriving Inhabited
inductive BS where
 |sc
 |fz (nie:Bool)
 |ow (m:Nat)
 |ot
 deriving Inhabited
inductive BO where
 |sc
 |fz
 |ow (m:Nat)
 |dead
 deriving Inhabited
inductive LR where
 |sc
 |fz
 |ow (m:Nat)
 |rp (sz:Nat)
 |bx (cells:List BO)
 deriving Inhabited
structure Sig where
 fn:Nat
 params:List (Bool×List LS)
 boxes:List (Bool×List (BS×BO))
 results:List (Bool×List LR)
 deriving Inhabited
structure Env where
 ti:Nat->Option TI
 sigs:List (Nat×Sig)
 ntmps:Nat
 ngh:Nat:=0
 freezeEx:Bool:=false
 moveSn:Bool:=false
 nomv:List (Nat×Nat):=[]
 hints:List (Nat×List (Nat×Nat×Nat×Nat)×List Nat×Nat×List Nat):=[]
 pxs:List Nat:=[]
 nbx:Nat:=0
 deriving Inhabited
def Nbv (a b:IntKind):Bool:=decide (a=b)
def D.beq0:D->D->Bool
 |.int k n,.int k' n'=>Nbv k k'&&decide (n=n')
 |.bool a,.bool b=>a==b
 |.str a,.str b=>a==b
 |.rows s [],.rows s' []=>Nat.beq s s'
 |.undef,.undef=>true
 |.hole,.hole=>true
 |_,_=>false
def aP.beq0:aP->aP->Bool
 |.v i,.v j=>Nat.beq i j
 |.c a,.c b=>a.beq0 b
 |_,_=>false
def Ibm:Option (aP×Bool)->Option (aP×Bool)->Bool
 |none,none=>true
 |some (a,b),some (c,d)=>a.beq0 c&&(b==d)
 |_,_=>false
def gP:CK->aT
 |.sc z=>.sc (.c z)
 |.sl sz=>.sn [] .no true (.c (.rows sz []))
 |.pn=>.pn
 |.ot=>.dead
def Sa3 (ti:Nat->Option TI)(t:TypeId):Value->Option SV
 |.int k n=>some (.one (.sc (.c (.int k n))))
 |.bool b=>some (.one (.sc (.c (.bool b))))
 |.string s=>some (.one (.sc (.c (.str s.data.toList))))
 | .slice none 0 0 => match ti t with
  |some { cells:=[.sl sz],.. }=>some (.one (.sn [] .no true (.c (.rows sz []))))
  |_=>none
 |.pointer none=>some (.one .pn)
 |_=>none
section
variable (E:Env)
def noG:Option (aP×Bool)->Bool
 |none=>true
 |some _=>false
def unG (g:Option (aP×Bool)):SV->SV
 |.one (.su h x)=>bif Ibm g (some h) then .one (.sc x) else .one (.su h x)
 |v=>v
def gOk (g:Option (aP×Bool)):Option (aP×Bool)->Bool
 |none=>true
 |g'=>Ibm g g'
def Pas (g:Option (aP×Bool))(t:TypeId):Operand->RdM SV
 | .tmp k => .rd (kT k) fun
  |some (.slot g' v)=>bif gOk g g'&&Sb0 k E.ntmps then .ret (unG g v) else .no
  |_=>.no
 |.const v=>pR (Sa3 E.ti t v)
 |.func f=>.ret (.one (.clo f []))
 |.global _=>.no
def one:SV->RdM aT
 |.one l=>.ret l
 |_=>.no
def rdL (g:Option (aP×Bool))(t:TypeId)(x:Operand):RdM aT:=do one (<- Pas E g t x)
def wN (g:Option (aP×Bool)):aT->Option aP
 |.sc a=>some a
 |.su h a=>bif Ibm g (some h) then some a else none
 |_=>none
def rdA (g:Option (aP×Bool))(t:TypeId)(x:Operand):RdM aP:=do
 pR (wN g (<- rdL E g t x))
def Kah (g:Option (aP×Bool))(h:aP×Bool)(t:TypeId)(x:Operand):RdM aP:=do
 let l <- rdL E g t x
 match wN g l with
 |some a=>.ret a
 |none=>pR (wN (some h) l)
def mkS (g:Option (aP×Bool))(x:aP):SV:=match g with
 |none=>.one (.sc x)
 |some z=>.one (.su z x)
def xI:List (Nat×Nat)->RdM (List (Nat×Nat))
 |[]=>.ret []
 | (r, k) :: rest => do
  match <- rdK (kR r) with
  | some (.root _ _ cQ st) =>
   let ds <- xI rest
   match st with
   |.frozen=>bif Nat.beq cQ k then .ret ds else .no
   |.live=>bif Nat.beq cQ k then .ret ((r,k)::ds) else .no
   |_=>.no
  |_=>.no
structure SlR where
 x:aP
 deps:List (Nat×Nat)
 own:Option (Nat×Nat×Nat×Pth)
 nie:Bool
def zH:aT->RdM SlR
 | .ex r => do
  match <- rdK (kR r) with
  |some (.root x m cQ .live)=>.ret ⟨x,[(r,cQ)],some (r,cQ,m,.path []),false⟩
  |some (.root x m cQ .frozen)=>.ret ⟨x,[],none,false⟩
  |_=>.no
 | .sn deps p nie x => do
  let ds <- xI deps
  match p,deps,ds with
  |.no,_,_=>.ret ⟨x,ds,none,nie⟩
  | p, [(r, k)], [_] => do
   match <- rdK (kR r) with
   |some (.root _ m _ .live)=>.ret ⟨x,[(r,k)],some (r,k,m,p),nie⟩
   |_=>.no
  |_,_,_=>.ret ⟨x,ds,none,nie⟩
 |_=>.no
def kW (s:SlR)(i:aP)(sz off:Nat):CK->aP->aT
 |.sc _,y=>.sc y
 | .sl _, y =>
  match s.own with
  |some (r,k,m,.path p)=>bif Nat.ble (p.length+2) m then .sn [(r,k)] (.path (p++[(i,sz,off)])) false y else .sn [] .no false y
  |_=>.sn s.deps .no false y
 |_,_=>.dead
def fO (s:SlR)(i:aP)(sz:Nat):Nat->List CK->Nat->List aT
 |_,[],_=>[]
 |off,c::cs,y=>kW s i sz off c (.v y)::fO s i sz (off+1) cs (y+1)
def lI (agg:Bool):SV->Option (List aT)
 |.one l=>bif agg then none else some [l]
 |.agg ls=>bif agg then some ls else none
 |_=>none
def Tat (agg:Bool)(ls:List aT):Option SV :=
 bif agg then some (.agg ls) else match ls with
  |[l]=>some (.one l)
  |_=>none
def Fa6:CK->Nat
 |.sc (.int _ _)=>0
 |.sc (.bool _)=>1
 |.sc (.str _)=>2
 |_=>3
def Ibb:CK->Bool
 |.sc _=>true
 |_=>false
def Oao:List CK->Bool
 |[]=>true
 |.sc _::r=>Oao r
 |_=>false
structure Put where
 xs:List aP
 moves:List (Nat×Nat×Nat)
 holes:List (Nat×Nat×List (aP×Nat×Nat))
 frz:List Nat
 depth:Nat
def big:Nat:=99
def Sah (mv eR:Bool)(off:Nat):aT->RdM Put
 |.sc x=>.ret ⟨[x],[],[],[],big⟩
 | .ex r => do
  match <- rdK (kR r) with
  |some (.root x m cQ .live)=>bif mv then .ret ⟨[x],[(off,r,m)],[],[],m⟩ else .ret ⟨[x],[],[],[r],0⟩
  |some (.root x m cQ .frozen)=>.ret ⟨[x],[],[],[],0⟩
  |_=>.no
 | .sn deps p nie x => do
  match deps,nie,x with
  |[],true,.c (.rows _ [])=>.ret ⟨[x],[],[],[],big⟩
  | _, _, _ =>
   let s <- zH (.sn deps p nie x)
   match s.own with
   |some (r,k,m,.path q)=>bif eR&&Nat.ble (q.length+1) m then .ret ⟨[x],[],[(off,r,q)],[],m-q.length⟩ else .ret ⟨[x],[],[],[r],0⟩
   |_=>.ret ⟨[x],[],[],s.deps.map (·.1),0⟩
 |_=>.no
def uG (mv eR:Bool):Nat->List aT->RdM Put
 |_,[]=>.ret ⟨[],[],[],[],big⟩
 | off, l :: ls => do
  let a <- Sah mv eR off l
  let b <- uG mv eR (off+1) ls
  .ret ⟨a.xs++b.xs,a.moves++b.moves,a.holes++b.holes,a.frz++b.frz,min a.depth b.depth⟩
def has (l:List Nat)(n:Nat):Bool:=l.any (Nat.beq n)
def meets (a b:List Nat):Bool:=a.any fun x=>has b x
def eF:List Nat->RdM (List (Nat×aU))
 |[]=>.ret []
 | r :: rs => do
  match <- rdK (kR r) with
  | some (.root x m cQ .live) => do
   let l <- eF rs
   .ret ((kR r,.root x m cQ .frozen)::l)
  |some (.root _ _ _ .frozen)=>eF rs
  |_=>.no
def distinct:List Nat->Bool
 |[]=>true
 |x::r=>!(has r x)&&distinct r
def Naf:Nat->aP->List (aP×Nat×Nat)->aP->List Step×aP
 |_,_,[],y=>([],y)
 | nv, X, (i, sz, off) :: p, y =>
  match p with
  |[]=>([.prim (.set sz off 1) [X,i,y] 1],.v nv)
  | _ =>
   let (l,z):=Naf (nv+1) (.v nv) p y
   let n:=bT l
   ([.prim (.row sz off [false]) [X,i] 1]++l++[.prim (.set sz off 1) [X,i,z] 1],.v (nv+1+n))
def vJ (o:Oper)(g:Option (aP×Bool))(lets:List Step)(v:SV)(upd:List (Nat×aU)):RdM cK :=
 .ret ⟨lets,(match o.dst with|some d=>[(kT d,.slot g v)]|none=>[])++upd⟩
def vI (o:Oper)(g:Option (aP×Bool))(nv:Nat)(p:aS)(xs:List aP):RdM cK :=
 .ret ⟨[.prim p xs 1],match o.dst with|some d=>[(kT d,.slot none (mkS g (.v nv)))]|none=>[]⟩
def Zab (o:Oper)(g:Option (aP×Bool))(nv:Nat)(v:SV):RdM cK :=
 match g,v with
 | some _, .one l => match wN g l with
  |some x=>vI o g nv .id [x]
  |none=>vJ o g [] v []
 |_,_=>vJ o g [] v []
def atoms:List aT->Option (List aP)
 |[]=>some []
 |.sc x::r=>(atoms r).map (x::·)
 |_=>none
def wO:List SV->Option (List aT)
 |[]=>some []
 |.one l::r=>(wO r).map (l::·)
 |_=>none
def Jaa (g:Option (aP×Bool)):List aT->Option (List aP)
 |[]=>some []
 |l::r=>(wN g l).bind fun x=>(Jaa g r).map (x::·)
def tiR (t:TypeId):RdM TI:=pR (E.ti t)
def setRange {α:Type}(ls:List α)(off:Nat)(vs:List α):List α:=ls.take off++vs++ls.drop (off+vs.length)
def Oa4:aT->Bool
 |.su _ _=>false
 |_=>true
def Da7 (nv:Nat)(mv eR:Bool)(o:Oper)(g:Option (aP×Bool))(ti:TI)(p:aT)(ls:List aT):RdM cK:=do
 bZ (Nat.beq ls.length ti.size&&o.dst.isNone)
 match p with
 | .px b off => do
  match <- rdK (kB b) with
  | some (.box false bs) => do
   bZ (Nat.ble (off+ls.length) bs.length&&noG g&&ls.all Oa4)
   .ret ⟨[],[(kB b,.box false (setRange bs off ls))]⟩
  |_=>.no
 | .pe l sz i off => do
  bZ (noG g)
  let s <- zH l
  match s.own with
  | some (r, k, m, .path q) => do
   bZ (Nat.ble (q.length+1) m)
   match <- rdK (kR r) with
   | some (.root X m cQ .live) => do
    let pu <- uG mv eR off ls
    let fr <- eF pu.frz
    bZ (!(has pu.frz r)&&!(pu.moves.any fun z=>Nat.beq z.2.1 r)&&pu.holes.isEmpty&&distinct (pu.moves.map (·.2.1))&&!(pu.moves.any fun z=>has pu.frz z.2.1))
    let m':=min m (q.length+1+pu.depth)
    let st1:Step:=.prim (.set sz off ti.size) ([s.x,i]++pu.xs) 1
    let (l2,X'):=Naf (nv+1) X q (.v nv)
    .ret ⟨st1::l2,(kR r,.root X' m' (cQ+1) .live)::(pu.moves.map fun z=>(kR z.2.1,.root (.c .hole) 0 0 .gone))++fr⟩
   |_=>.no
  |_=>.no
 |_=>.no
def Tan (nv:Nat)(o:Oper)(g:Option (aP×Bool))(ti:TI)(p:aT):RdM cK:=do
 match p with
 | .px b off => do
  match <- rdK (kB b) with
  | some (.box _ bs) =>
   bZ (Nat.ble (off+ti.size) bs.length)
   match Tat ti.agg ((bs.drop off).take ti.size) with
   |some v=>Zab o g nv v
   |none=>.no
  |_=>.no
 | .pe l sz i off => do
  let s <- zH l
  match Tat ti.agg (fO s i sz off ti.cells nv) with
  |some (.one (.sc x))=>vI o g nv (.row sz off [true]) [s.x,i]
  |some v=>vJ o g [.prim (.row sz off (ti.cells.map Ibb)) [s.x,i] ti.size] v []
  |none=>.no
 |_=>.no
def Ray (o:Oper)(g:Option (aP×Bool))(fo:Nat):aT->RdM cK
 |.px b off=>vJ o g [] (.one (.px b (off+fo))) []
 |.pe l sz i off=>vJ o g [] (.one (.pe l sz i (off+fo))) []
 |_=>.no
def uO (flds:List (Nat×Nat))(ti:Nat->Option TI):List aT->List (Nat×SV)->Option (List aT)
 |ls,[]=>some ls
 | ls, (i, v) :: r =>
  match flds[i]? with
  | some (off, t) => match ti t with
   | some f => match lI f.agg v with
    |some vs=>bif Nat.beq vs.length f.size&&Nat.ble (off+f.size) ls.length then uO flds ti (setRange ls off vs) r else none
    |none=>none
   |none=>none
  |none=>none
def Eag (g:Option (aP×Bool))(ty:Nat->TypeId):List (Nat×Operand)->RdM (List (Nat×SV))
 |[]=>.ret []
 | (i, x) :: r => do
  let v <- Pas E g (ty i) x
  let l <- Eag g ty r
  .ret ((i,v)::l)
def Dai (ti:TI)(len:Nat):List aT->List (Nat×SV)->Option (List aT)
 |ls,[]=>some ls
 | ls, (i, v) :: r =>
  match lI ti.agg v with
  |some vs=>bif Nat.beq vs.length ti.size&&Sb0 i len then Dai ti len (setRange ls (i*ti.size) vs) r else none
  |none=>none
def Ebl {α:Type}(l:List α):Nat->List α
 |0=>[]
 |n+1=>l++Ebl l n
def Tao (pa:Bool)(y:SlR):RdM (Nat×List (Nat×aU)×List Nat) :=
 bif pa then .ret (big,[],y.deps.map (·.1)) else
 match y.own with
 | some (r, k, m, .path []) =>
  bif Nat.ble 2 m then .ret (m,[(kR r,.root (.c .hole) 0 0 .gone)],[r]) else .ret (1,[],[r])
 | some (r, k, m, _) => do
  let fr <- eF [r]
  .ret (1,fr,[r])
 | none => match y.x with
  |.c (.rows _ [])=>.ret (big,[],[])
  | _ => do
   let fr <- eF (y.deps.map (·.1))
   .ret (1,fr,y.deps.map (·.1))
def zB (nv nr:Nat)(o:Oper)(ti:TI)(y:SlR)(dy:Nat)(hL:List (Nat×aU))(sx:aP)(m:Nat)(pre:List Step)(upd:List (Nat×aU)):RdM cK :=
 vJ o none (pre++[.prim (.app ti.size ti.bytes (Oao ti.cells)) [sx,y.x] 1]) (.one (.ex nr))
  ((kR nr,.root (.v (nv+bT pre)) (bif Oao ti.cells then big else min m dy) 0 .live)::upd++hL)
def Maq (nv nr:Nat)(mv eR:Bool)(o:Oper)(ti:TI)(sl yl:aT):RdM cK:=do
 let y <- zH yl
 let pa:=Oao ti.cells
 let (dy,hL,ry) <- Tao pa y
 match sl with
 |.sn [] _ true (.c (.rows z []))=>zB nv nr o ti y dy hL (.c (.rows z [])) big [] []
 | _ => do
  let s <- zH sl
  match s.own with
  | some (r, k, m, q) =>
   bZ ((!(has ry r)||pa)&&Nat.ble 1 m)
   match q with
   |.path []=>zB nv nr o ti y dy hL s.x m [] [(kR r,.root (.c .hole) 0 0 .gone)]
   |.view=>bif pa||Nat.beq m 1 then zB nv nr o ti y dy hL s.x m [] [(kR r,.root (.c .hole) 0 0 .gone)] else .no
   | .path q => do
    bZ (Nat.ble (q.length+1) m&&!(has ry r))
    match <- rdK (kR r) with
    | some (.root X m cQ .live) =>
     let (l,X'):=Naf nv X q (.c .hole)
     zB nv nr o ti y dy hL s.x (m-q.length) l [(kR r,.root X' m (cQ+1) .live)]
    |_=>.no
   |.no=>.no
   |.suf _ _=>.no
  |none=>.no
def kX:List LS->List aT->List (Nat×Nat×Nat)->Option (List (Nat×Nat×Nat))
 |[],[],acc=>some acc
 |.px b::ss,.px c off::ls,acc=>kX ss ls ((b,c,off)::acc)
 |_,_,_=>none
def Paf:List LS->List aT->Bool
  |[],[]=>true
  | s :: ss, l :: ls =>
    (match s,l with
     |.sc,.sc _=>true
     |.sc,.su _ _=>true
     |.fz _,.ex _=>true
     |.fz _,.sn ..=>true
     |.mu _,.ex _=>true
     |.mu _,.sn ..=>true
     |.ow _,.ex _=>true
     |.ow _,.sn ..=>true
     |.px _,.px _ _=>true
     |.clo f cs,.clo f' lh=>Nat.beq f f'&&Nat.beq cs.length lh.length
     |.rp _,.rp _ _ _=>true
     |_,_=>false)&&Paf ss ls
  |_,_=>false
def uZ:SV->List aT
 |.one l=>[l]
 |.agg ls=>ls
 |_=>[]
def Obk:SV->Bool
 |.agg _=>true
 |_=>false
def Sa9:List (Bool×List LS)->List SV->Bool
 |[],[]=>true
 |(a,ss)::ps,v::vs=>(a==Obk v)&&Paf ss (uZ v)&&Sa9 ps vs
 |_,_=>false
def Iap (f:Nat)(vs:List SV):List (Nat×Sig)->Option (Nat×Sig)
 |[]=>none
 |(k,s)::r=>bif Nat.beq s.fn f&&Sa9 s.params vs then some (k,s) else Iap f vs r
inductive RT where
 |nil
 |own (r d:Nat)
 |mu (r d:Nat) (q:List (aP×Nat×Nat)) (X:aP)
 deriving Inhabited
structure Take where
 xs:List aP
 ptrs:List (Nat×Nat×Nat)
 deps:List (Nat×Nat)
 lets:List Step
 rts:List RT
def Take.empty:Take:=⟨[],[],[],[],[]⟩
def Oau (g:Option (aP×Bool))(T:Take)(l:aT):RdM Take:=do
 let x <- pR (wN g l)
 .ret { T with xs:=T.xs++[x] }
def tV (T:Take)(nie:Bool)(l:aT):RdM Take:=do
 let s <- zH l
 .ret { T with xs:=T.xs++[s.x],deps:=T.deps++s.deps,lets:=T.lets++(bif nie&&!s.nie then [.prim .ne [s.x] 0] else []) }
def wL (T:Take)(d:Nat):aT->RdM Take
 | .ex r => do
  match <- rdK (kR r) with
  | some (.root x m cQ .live) => do
   bZ (Nat.ble d m)
   .ret { T with xs:=T.xs++[x],rts:=T.rts++[.own r d] }
  |_=>.no
 |.sn [] _ true (.c (.rows z []))=>.ret { T with xs:=T.xs++[.c (.rows z [])],rts:=T.rts++[.nil] }
 |_=>.no
def Jaw (T:Take)(d:Nat)(l:aT):RdM Take:=do
 let s <- zH l
 match s.own with
 | some (r, k, m, .path q) => do
  bZ (Nat.ble (q.length+d) m)
  match <- rdK (kR r) with
  |some (.root X _ _ .live)=>.ret { T with xs:=T.xs++[s.x],rts:=T.rts++[.mu r d q X] }
  |_=>.no
 |_=>.no
def Hab (T:Take)(z:Nat):aT->RdM Take
 | .rp deps n9 x => do
  let ds <- xI deps
  .ret { T with xs:=T.xs++[x],deps:=T.deps++ds }
 |.pn=>.ret { T with xs:=T.xs++[.c (.rows z [])] }
 |_=>.no
def uW (g:Option (aP×Bool))(T:Take):LS->aT->RdM Take
 |.sc,l=>Oau g T l
 |.fz nie,l=>tV T nie l
 |.mu d,l=>Jaw T d l
 |.ow d,l=>wL T d l
 |.px b,.px c off=>.ret { T with ptrs:=T.ptrs++[(b,c,off)] }
 | .clo f cs, .clo f' ls =>
  match kX cs ls [] with
  |some l=>bif Nat.beq f f' then .ret { T with ptrs:=T.ptrs++l } else .no
  |none=>.no
 |.rp z,l=>Hab T z l
 |_,_=>.no
def dQ (g:Option (aP×Bool)):Take->List LS->List aT->RdM Take
 |T,[],[]=>.ret T
 | T, s :: ss, l :: ls => do
  let T <- uW g T s l
  dQ g T ss ls
 |_,_,_=>.no
def fU (g:Option (aP×Bool)):Take->List (Bool×List LS)->List SV->RdM Take
 |T,[],[]=>.ret T
 | T, (a, ss) :: ps, v :: vs => do
  let ls <- pR (lI a v)
  let T <- dQ g T ss ls
  fU g T ps vs
 |_,_,_=>.no
def Bat (T:Take):BS->aT->RdM Take
 |.sc,.sc x=>.ret { T with xs:=T.xs++[x] }
 |.fz nie,l=>tV T nie l
 |.ow d,l=>wL T d l
 |.ot,l=>bif Oa4 l then .ret T else .no
 |_,_=>.no
def fA:Take->List (BS×BO)->List aT->RdM Take
 |T,[],_=>.ret T
 | T, (s, _) :: ss, l :: ls => do
  let T <- Bat T s l
  fA T ss ls
 |_,_::_,[]=>.no
def Qbj:List (BS×BO)->Bool
 |[]=>true
 |(.ow _,_)::_=>false
 |_::r=>Qbj r
def qO (b:Nat):List (Nat×Nat×Nat)->Option (Nat×Nat)
 |[]=>none
 |(b',c,off)::r=>bif Nat.beq b' b then some (c,off) else qO b r
def fQ (ptrs:List (Nat×Nat×Nat)):Take->Nat->List (Bool×List (BS×BO))->RdM Take
 |T,_,[]=>.ret T
 | T, b, (ro, cs) :: r => do
  match qO b ptrs with
  | some (c, off) => do
   match <- rdK (kB c) with
   | some (.box lP ls) => do
    bZ (((ro&&Qbj cs)||(!ro&&!lP&&!cs.isEmpty))&&Nat.ble (off+cs.length) ls.length)
    let T <- fA T cs (ls.drop off)
    fQ ptrs T (b+1) r
   |_=>.no
  |none=>.no
def jO (w:Bool)(ptrs:List (Nat×Nat×Nat)):Nat->List (Bool×List (BS×BO))->List Nat
 |_,[]=>[]
 |b,(ro,_)::r=>bif ro==w then (match qO b ptrs with | some (c,_)=>c::jO w ptrs (b+1) r | none=>jO w ptrs (b+1) r) else jO w ptrs (b+1) r
def Ta8 (nbx:Nat)(ptrs:List (Nat×Nat×Nat)):List (Nat×Nat×Nat)->Bool
 |[]=>true
 |(b,c,off)::r=>Sb0 b nbx&&(match qO b ptrs with | some (c',lz)=>Nat.beq c c'&&Nat.beq off lz | none=>false)&&Ta8 nbx ptrs r
def dL:List RT->List Nat
 |[]=>[]
 |.nil::r=>dL r
 |.own s _::r=>s::dL r
 |.mu s _ _ _::r=>s::dL r
def Xag (s:Sig)(T:Take):Bool :=
 let wr:=jO false T.ptrs 0 s.boxes
 Ta8 s.boxes.length T.ptrs T.ptrs&&distinct (dL T.rts)&&!(T.deps.any fun d=>has (dL T.rts) d.1)&&distinct wr&&!(meets wr (jO true T.ptrs 0 s.boxes))
def LR.n:LR->Nat
 |.bx cs=>cs.length
 |_=>1
def oQ:List LR->Nat
 |[]=>0
 |s::ss=>s.n+oQ ss
def bxL:List LR->Nat
 |[]=>0
 |.bx _::ss=>1+bxL ss
 |_::ss=>bxL ss
def mE:List (Bool×List LR)->Nat
 |[]=>0
 |(_,ss)::rs=>bxL ss+mE rs
def bU:List (Bool×List LR)->Nat
 |[]=>0
 |(_,ss)::rs=>oQ ss+bU rs
def kY (deps:List (Nat×Nat))(y nr:Nat):BO->aT×List (Nat×aU)×Nat
 |.sc=>(.sc (.v y),[],nr)
 |.fz=>(.sn deps .no false (.v y),[],nr)
 |.ow m=>(.ex nr,[(kR nr,.root (.v y) m 0 .live)],nr+1)
 |.dead=>(.dead,[],nr)
def eD (deps:List (Nat×Nat)):Nat->Nat->List BO->List aT×List (Nat×aU)×Nat
 |_,nr,[]=>([],[],nr)
 | y, nr, s :: ss =>
  let (l,u,nr):=kY deps y nr s
  let (ls,us,nr):=eD deps (y+1) nr ss
  (l::ls,u++us,nr)
def dM (gd:Bool)(deps:List (Nat×Nat))(nb y nr:Nat):LR->aT×List (Nat×aU)×Nat
 |.sc=>(.sc (.v y),[],nr)
 |.fz=>(.sn deps .no false (.v y),[],nr)
 |.ow m=>bif gd then (.sn deps .no false (.v y),[],nr+1) else (.ex nr,[(kR nr,.root (.v y) m 0 .live)],nr+1)
 |.rp sz=>(.rp deps sz (.v y),[],nr)
 | .bx cs =>
  let (ls,us,nr):=eD deps y nr cs
  (.px nb 0,(kB nb,.box false ls)::us,nr)
def dW (gd:Bool)(deps:List (Nat×Nat))(nb:Nat):Nat->Nat->List LR->List aT×List (Nat×aU)×Nat
 |_,nr,[]=>([],[],nr)
 | y, nr, s :: ss =>
  let (l,u,nr):=dM gd deps nb y nr s
  let (ls,us,nr):=dW gd deps nb (y+s.n) nr ss
  (l::ls,u++us,nr)
def kD (gd:Bool)(deps:List (Nat×Nat))(nb:Nat):Nat->Nat->List (Bool×List LR)->List (Bool×List aT)×List (Nat×aU)×Nat
 |_,nr,[]=>([],[],nr)
 | y, nr, (a, s) :: ss =>
  let (l,u,nr):=dW gd deps nb y nr s
  let (ls,us,nr):=kD gd deps nb (y+oQ s) nr ss
  ((a,l)::ls,u++us,nr)
def nG (ptrs:List (Nat×Nat×Nat))(deps:List (Nat×Nat)):Nat->Nat->Nat->List (Bool×List (BS×BO))->RdM (List (Nat×aU))
 |_,y,nr,[]=>.ret []
 | b, y, nr, (ro, cs) :: r =>
  bif ro then nG ptrs deps (b+1) y nr r else
  match qO b ptrs with
  | some (c, off) => do
   match <- rdK (kB c) with
   | some (.box false ls) => do
    let (ns,us,nr):=eD deps y nr (cs.map (·.2))
    let rest <- nG ptrs deps (b+1) (y+cs.length) nr r
    .ret ((kB c,.box false (setRange ls off ns))::us++rest)
   |_=>.no
  |none=>.no
def Aap:Nat->Nat->List RT->RdM (List Step×List (Nat×aU))
 |_,_,[]=>.ret ([],[])
 | y, nv, .mu r d q X :: rest => do
  match <- rdK (kR r) with
  | some (.root _ m v .live) => do
   let (l,X'):=Naf nv X q (.v y)
   let (ls,us) <- Aap (y+1) (nv+bT l) rest
   .ret ((bif Nat.beq (q.length+d) m then [] else [.prim (.dep d) [.v y] 0])++(l++ls),(kR r,.root X' m (v+1) .live)::us)
  |_=>.no
 |y,nv,_::rest=>Aap y nv rest
def iE:List RT->List (Nat×aU)
 |[]=>[]
 |.own r _::rest=>(kR r,.root (.c .hole) 0 0 .gone)::iE rest
 |_::rest=>iE rest
def fE:List (Bool×List (BS×BO))->Nat
 |[]=>0
 |(ro,cs)::r=>(bif ro then 0 else cs.length)+fE r
def qB:Nat->List BO->List Step
 |_,[]=>[]
 |y,.ow m::r=>.prim (.dep m) [.v y] 0::qB (y+1) r
 |y,_::r=>qB (y+1) r
def Sa7:Nat->List LR->List Step
 |_,[]=>[]
 |y,.ow m::r=>.prim (.dep m) [.v y] 0::Sa7 (y+1) r
 |y,.bx cs::r=>qB y cs++Sa7 (y+cs.length) r
 |y,_::r=>Sa7 (y+1) r
def Ab4:Nat->List (Bool×List LR)->List Step
 |_,[]=>[]
 |y,(_,ss)::r=>Sa7 y ss++Ab4 (y+oQ ss) r
def Ab5:Nat->List RT->List Step
 |_,[]=>[]
 |y,.mu _ d _ _::r=>.prim (.dep d) [.v y] 0::Ab5 (y+1) r
 |y,_::r=>Ab5 y r
def Wao:Nat->List (Bool×List (BS×BO))->List Step
 |_,[]=>[]
 |y,(ro,cs)::r=>bif ro then Wao y r else qB y (cs.map (·.2))++Wao (y+cs.length) r
def yD:RT->Bool
 |.mu _ _ _ _=>true
 |_=>false
def lU:List (BS×BO)->List aT->RdM (List aP)
 |[],_=>.ret []
 | (s, o) :: ss, l :: ls => do
  let x <- (match s,o,l with
   |.sc,.sc,.sc x=>RdM.ret x
   | .fz _, .fz, l => do
    let r <- zH l
    RdM.ret r.x
   |_,.dead,l=>bif Oa4 l then .ret (.c .hole) else .no
   |_,_,_=>.no)
  let r <- lU ss ls
  .ret (x::r)
 |_::_,[]=>.no
def jP (ptrs:List (Nat×Nat×Nat)):Nat->List (Bool×List (BS×BO))->RdM (List aP)
 |_,[]=>.ret []
 | b, (ro, cs) :: r =>
  bif ro then jP ptrs (b+1) r else
  match qO b ptrs with
  | some (c, off) => do
   match <- rdK (kB c) with
   | some (.box false ls) => do
    let l <- lU cs (ls.drop off)
    let m <- jP ptrs (b+1) r
    .ret (l++m)
   |_=>.no
  |none=>.no
def Caf (g:Option (aP×Bool)):List (Bool×List aT)->SV
 |[(false,[.sc x])]=>mkS g x
 |[(false,[l])]=>.one l
 |[(true,ls)]=>.agg ls
 |rs=>.tup rs
def Ebk (g:Option (aP×Bool)):SV->Option (aP×Bool)
 |.one (.su _ _)=>none
 |_=>g
def Fb8 (nv nb nr:Nat)(o:Oper)(g:Option (aP×Bool))(f:Nat)(vs:List SV):RdM cK:=do
 match Iap f vs E.sigs with
 |none=>.no
 | some (key, s) => do
  let T <- fU g Take.empty s.params vs
  let T <- fQ T.ptrs T 0 s.boxes
  bZ (Xag s T&&Nat.ble (mE s.results) 1&&(noG g||(T.rts.isEmpty&&Nat.beq (mE s.results) 0)))
  let nres:=bU s.results
  let nmu:=(T.rts.filter yD).length
  let total:=nres+nmu+fE s.boxes
  let y0:=nv+bT T.lets
  let (rs,us,xe):=kD (!noG g) T.deps nb y0 nr s.results
  let bu <- nG T.ptrs T.deps 0 (y0+nres+nmu) xe s.boxes
  let chk:=bif T.deps.isEmpty then [] else Ab4 y0 s.results++Ab5 (y0+nres) T.rts++Wao (y0+nres+nmu) s.boxes
  let (ml,mu) <- Aap (y0+nres) (y0+total) T.rts
  let olds <- (match g with
   |none=>RdM.ret []
   |some _=>jP T.ptrs 0 s.boxes)
  let v:=Caf g rs
  .ret ⟨T.lets++[.call key (T.xs) total olds]++chk++ml,(match o.dst with|some d=>[(kT d,.slot (Ebk g v) v)]|none=>[])++(us++bu++mu++iE T.rts)⟩
def Aan (g:Option (aP×Bool)):List Operand->List TypeId->RdM (List SV)
 |[],_=>.ret []
 | x :: xs, ts => do
  let v <- Pas E g (ts.headD 0) x
  let l <- Aan g xs ts.tail
  .ret (v::l)
def Pby:Option IntKind->Bool
 |some k=>Nbv k .u8
 |none=>false
def Kav:Operand->Bool
 |.const (.slice none _ _)=>true
 |_=>false
def Uag:Operand->Bool
 |.const (.pointer none)=>true
 |_=>false
def Nbm (nv:Nat)(o:Oper)(g:Option (aP×Bool))(neg:Bool)(t:TypeId)(x y:Operand):RdM cK:=do
 let a <- Pas E g t x
 let b <- Pas E g t y
 match a,b with
 | .agg ls, .agg ms => do
  let ti <- tiR E t
  match atoms ls,atoms ms with
  | some xs, some ys => do
   bZ (ti.cmp&&Nat.beq xs.length ti.size&&Nat.beq ys.length ti.size)
   let d:=match o.dst with|some d=>[(kT d,aU.slot none (mkS g (.v (bif neg then nv+1 else nv))))]|none=>[]
   .ret ⟨[.prim (.eqs (ti.cells.map Fa6)) (xs++ys) 1]++(bif neg then [.prim .not [.v nv] 1] else []),d⟩
  |_,_=>.no
 | .one l, .one m => do
  let ti <- tiR E t
  match wN g l,wN g m with
  | some p, some q => do
   bif ti.isBool then vI o g nv (.eqb neg) [p,q] else vI o g nv (.bin (bif neg then .neq else .eql)) [p,q]
  |_,_ =>
  let res (p:aS) (x:aP):RdM cK :=
   .ret ⟨[.prim p [x] 1]++(bif neg then [.prim .not [.v nv] 1] else []),match o.dst with|some d=>[(kT d,aU.slot none (mkS g (.v (bif neg then nv+1 else nv))))]|none=>[]⟩
  bif Kav y then do
   bZ ti.elem.isSome
   let s <- zH l
   let r <- res .emp s.x
   .ret (bif s.nie then r else ⟨.prim .ne [s.x] 0::r.lets,r.upd⟩)
  else bif Uag y then do
   bZ ti.isPtr
   match l with
   | .rp deps sz x => do
    let _ <- xI deps
    res .emp x
   |.pn=>vI o g nv .id [.c (.bool (!neg))]
   |.px _ _=>vI o g nv .id [.c (.bool neg)]
   |.pe _ _ _ _=>vI o g nv .id [.c (.bool neg)]
   |_=>.no
  else .no
 |_,_=>.no
def Jar:List CK->Option (List D)
 |[]=>some []
 |.sc z::r=>(Jar r).map (z::·)
 |.sl sz::r=>(Jar r).map (.rows sz []::·)
 |_::_=>none
def Jas (ei:TI)(lo:Bool)(s:SlR):Pth×Bool :=
 let one (m:Nat):Pth×Bool:=bif Nat.beq m 1||!lo then (.view,false) else bif Oao ei.cells then (.view,true) else (.no,false)
 match s.own with
 |some (_,_,m,.path [])=>one m
 |some (_,_,m,.view)=>one m
 |_=>(.no,false)
def Hbe (p:Pth)(sz:Nat)(lo:aP)(s:SlR):Pth :=
 match p,s.own with
 |.no,some (_,_,_,.path [])=>.suf sz lo
 |p,_=>p
def Raz (nv:Nat)(o:Oper)(ei:TI)(l:aT):RdM cK:=do
 let s <- zH l
 match s.own with
 | some (r, k, m, .suf sz lo) => do
  bZ (Nat.beq sz 1&&Nat.beq ei.size 1&&Nat.ble 1 m)
  match <- rdK (kR r) with
  |some (.root X m' cQ .live)=>.ret ⟨[.prim (.clr 1) [X,lo] 1],(match o.dst with | some d=>[(kT d,.slot none .dead)] | none=>[])++[(kR r,.root (.v nv) m' (cQ+1) .live)]⟩
  |_=>.no
 |_=>.no
def sH (mv eR:Bool)(nv nb nr:Nat)(g:Option (aP×Bool))(o:Oper):RdM cK :=
 match o.op with
 |.move x | .assign x=>do Zab o g nv (<- Pas E g o.type x)
 | .pick c a b => do
  let c <- rdA E g 0 c
  let a <- Kah E g (c,true) o.type a
  let b <- Kah E g (c,false) o.type b
  vI o g nv .pick [c,a,b]
 | .alloc e => do
  let ti <- tiR E e
  bZ (noG g)
  vJ o g [] (.one (.px nb 0)) [(kB nb,.box false (ti.cells.map gP))]
 | .box e x => do
  let ti <- tiR E e
  let v <- Pas E g e x
  match lI ti.agg v with
  | some ls => do
   bZ (Nat.beq ls.length ti.size&&noG g&&ls.all Oa4)
   vJ o g [] (.one (.px nb 0)) [(kB nb,.box false ls)]
  |none=>.no
 | .build t parts => do
  let ti <- tiR E t
  bZ ti.agg
  let ps <- Eag E g (fun i=>(ti.flds.getD i (0,0)).2) parts.toList
  match uO ti.flds E.ti (ti.cells.map gP) ps with
  |some ls=>vJ o g [] (.agg ls) []
  |none=>.no
 | .buildSlice t len parts => do
  let st <- tiR E t
  let e <- pR st.elem
  let ti <- tiR E e
  let ps <- Eag E g (fun _=>e) parts.toList
  bZ (Nat.ble (len*ti.size) 4096&&Sb0 0 ti.size&&Sb0 (len*ti.bytes) 4096)
  match Dai ti len (Ebl (ti.cells.map gP) len) ps with
  | some ls => do
   let pu <- uG mv eR 0 ls
   bZ (noG g||(pu.moves.isEmpty&&pu.holes.isEmpty&&pu.frz.isEmpty))
   let fr <- eF pu.frz
   bZ (distinct (pu.moves.map (·.2.1))&&!(pu.moves.any fun z=>has pu.frz z.2.1)&&pu.holes.isEmpty)
   bif noG g then
    vJ o g [.prim (.mk ti.size len) pu.xs 1] (.one (.ex nr))
     ((kR nr,.root (.v nv) (min big (pu.depth+1)) 0 .live)::(pu.moves.map fun z=>(kR z.2.1,.root (.c .hole) 0 0 .gone))++fr)
   else vJ o g [.prim (.mk ti.size len) pu.xs 1] (.one (.sn [] .no false (.v nv))) []
  |none=>.no
 | .load t a => do
  let ti <- tiR E t
  Tan nv o g ti (<- rdL E g 0 a)
 | .store t a x => do
  let ti <- tiR E t
  let p <- rdL E g 0 a
  let v <- Pas E g t x
  match lI ti.agg v with
  |some ls=>Da7 nv mv eR o g ti p ls
  |none=>.no
 | .nilCheck x => do
  match <- rdL E g 0 x with
  | .rp deps sz y => do
   let ds <- xI deps
   vJ o g [.prim .ne [y] 0] (.one (.pe (.sn ds .no false y) sz (.c (.int .i64 0)) 0)) []
  |.px b off=>vJ o g [] (.one (.px b off)) []
  |.pe l sz i off=>vJ o g [] (.one (.pe l sz i off)) []
  |.clo f cs=>vJ o g [] (.one (.clo f cs)) []
  |.pn=>vJ o g [.prim .ne [.c (.rows 0 [])] 0] (.one (.pe (.sn [] .no false (.c (.rows 0 []))) 0 (.c (.int .i64 0)) 0)) []
  |_=>.no
 |.binOp .eql t x y _=>Nbm E nv o g false t x y
 |.binOp .neq t x y _=>Nbm E nv o g true t x y
 | .binOp op t x y ty => do
  let a <- rdA E g t x
  let b <- rdA E g ty y
  vI o g nv (.bin op) [a,b]
 | .unOp op _ x => do
  let a <- rdA E g 0 x
  match op with
  |.not=>vI o g nv .not [a]
  |.neg=>vI o g nv .neg [a]
  |.xor=>vI o g nv .inv [a]
  |_=>.no
 | .convert src dst x => do
  let s <- tiR E src
  let d <- tiR E dst
  match d.ik with
  | some k => do
   bZ s.ik.isSome
   let a <- rdA E g src x
   vI o g nv (.conv k) [a]
  | none =>
   bif d.isStr then
    bif s.isStr then do
     let a <- rdA E g src x
     vI o g nv .sid [a]
    else do
     let e <- pR s.elem
     let ei <- tiR E e
     bZ (Pby ei.ik)
     let r <- zH (<- rdL E g src x)
     vI o g nv .bstr [r.x]
   else .no
 | .makeFunc (.func f) first gi => do
  bZ first.isEmpty
  let vs <- Aan E g gi.toList []
  let ls <- pR (wO vs)
  vJ o g [] (.one (.clo f ls)) []
 | .makeSlice t l c => do
  let st <- tiR E t
  let e <- pR st.elem
  let ti <- tiR E e
  bZ (noG g)
  let a <- rdA E g 0 l
  let b <- rdA E g 0 c
  bZ (a.beq0 b&&Sb0 0 ti.size&&Sb0 0 ti.bytes)
  let zs <- pR (Jar ti.cells)
  vJ o none [.prim (.make ti.bytes zs) [a] 1] (.one (.ex nr)) [(kR nr,.root (.v nv) big 0 .live)]
 | .slice t x lo hi mx => do
  let ti <- tiR E t
  match mx with
  |some _=>.no
  | none => do
   let l <- rdL E g t x
   let vl <- (match lo with|some a=>rdA E g 0 a|none=>RdM.ret (.c (.int .i64 0)))
   match l with
   | .sc s => do
    bZ (ti.isStr&&(noG g||hi.isSome))
    match hi with
    | some h => do
     let h <- rdA E g 0 h
     vI o g nv .ssub [s,vl,h]
    | none =>
     .ret ⟨[.prim .slen [s] 1,.prim .ssub [s,vl,.v nv] 1],match o.dst with|some d=>[(kT d,.slot none (mkS g (.v (nv+1))))]|none=>[]⟩
   | l => do
    bZ ti.elem.isSome
    let s <- zH l
    let ei <- tiR E (ti.elem.getD 0)
    let (p,fl):=Jas ei lo.isSome s
    match hi with
    | some h => do
     let h <- rdA E g 0 h
     match l with
     |.sn _ _ true (.c (.rows z []))=>vJ o g [.prim (.sub ei.size fl) [s.x,vl,h] 1] (.one l) []
     |_=>vJ o g [.prim (.sub ei.size fl) [s.x,vl,h] 1] (.one (.sn s.deps p false (.v nv))) []
    | none =>
     vJ o g [.prim .len [s.x] 1,.prim (.sub ei.size fl) [s.x,vl,.v nv] 1] (.one (.sn s.deps (Hbe p ei.size vl s) false (.v (nv+1)))) []
 | .fieldAddr t x f => do
  let ti <- tiR E t
  match ti.flds[f]? with
  | some (off, ft) => do
   let fi <- tiR E ft
   bZ (Sb0 0 fi.size)
   Ray o g off (<- rdL E g 0 x)
  |none=>.no
 | .field t x f => do
  let ti <- tiR E t
  match ti.flds[f]? with
  | some (off, ft) => do
   let fi <- tiR E ft
   match <- Pas E g t x with
   | .agg ls => do
    bZ (Nat.ble (off+fi.size) ls.length&&Nat.beq ls.length ti.size)
    match Tat fi.agg ((ls.drop off).take fi.size) with
    |some v=>Zab o g nv v
    |none=>.no
   |_=>.no
  |none=>.no
 | .indexAddr t x i => do
  let ti <- tiR E t
  let e <- pR ti.elem
  let ei <- tiR E e
  let l <- rdL E g t x
  let s <- zH l
  let a <- rdA E g 0 i
  bZ (Sb0 0 ei.size)
  vJ o g [.prim .inb [s.x,a] 0] (.one (.pe l ei.size a 0)) []
 | .index t x i => do
  let ti <- tiR E t
  bZ ti.isStr
  let s <- rdA E g t x
  let a <- rdA E g 0 i
  vI o g nv .sidx [s,a]
 | .extract x i => do
  match <- Pas E g 0 x with
  | .tup vs => match vs[i]? with
   | some (a, ls) => match Tat a ls with
    |some v=>Zab o g nv v
    |none=>.no
   |none=>.no
  |_=>.no
 | .call { callee := .builtin b, args, argTypes } => do
  match b,args.toList with
  | .len, [x] => do
   let t <- pR argTypes[0]?
   let ti <- tiR E t
   let l <- rdL E g t x
   match wN g l with
   | some a => do
    bZ ti.isStr
    vI o g nv .slen [a]
   | none => do
    bZ ti.elem.isSome
    let s <- zH l
    vI o g nv .len [s.x]
  | .append, [x, y] => do
   let t <- pR argTypes[0]?
   let ty <- pR argTypes[1]?
   let ti <- tiR E t
   let e <- pR ti.elem
   let ei <- tiR E e
   let yi <- tiR E ty
   bZ (yi.elem.isSome&&Sb0 0 ei.size&&noG g&&Sb0 0 ei.bytes&&Nat.beq argTypes.size 2)
   Maq nv nr mv eR o ei (<- rdL E g t x) (<- rdL E g ty y)
  | .clear, [x] => do
   let t <- pR argTypes[0]?
   let ti <- tiR E t
   let e <- pR ti.elem
   let ei <- tiR E e
   bZ (noG g&&Nat.beq argTypes.size 1)
   Raz nv o ei (<- rdL E g t x)
  | .min, xs => do
   let vs <- Aan E g xs argTypes.toList
   let as <- pR ((wO vs).bind (Jaa g))
   vI o g nv .min as
  | .max, xs => do
   let vs <- Aan E g xs argTypes.toList
   let as <- pR ((wO vs).bind (Jaa g))
   vI o g nv .max as
  |_,_=>.no
 | .call { callee := .value f, args, argTypes } => do
  match <- rdL E g 0 f with
  | .clo fn gi => do
   let vs <- Aan E g args.toList argTypes.toList
   Fb8 E nv nb nr o g fn (vs++gi.map .one)
  |_=>.no
 |_=>.no
end
def lM {α:Type}(n:Nat):Option α:=none
structure St where
 tr:Tr aU
 nv:Nat
 nb:Nat
 nr:Nat
 nt:Nat
 deriving Inhabited
def wS (nt nb nr k:Nat):Bool :=
 bif Nat.beq (k % 3) 0 then Sb0 (k / 3) nt else bif Nat.beq (k % 3) 1 then Sb0 (k / 3) nb else Sb0 (k / 3) nr
def St.get (s:St)(k:Nat):Option aU:=bif wS s.nt s.nb s.nr k then s.tr.get k else none
def bF (n:Nat):aP->Bool
 |.v i=>Sb0 i n
 |.c _=>true
def Eaa (n:Nat):Step->Bool
 |.prim _ xs _=>xs.all (bF n)
 |.call _ xs k olds=>xs.all (bF n)&&olds.all (bF n)&&Nat.ble olds.length k
def fG:Nat->List Step->Bool
 |_,[]=>true
 |n,s::r=>Eaa n s&&fG (n+s.n) r
def rH (n:Nat):Option (aP×Bool)->Bool
 |none=>true
 |some (x,_)=>bF n x
def St.put (s:St)(k:Nat)(c:Option aU):St:={ s with tr:=s.tr.set 16 k c }
def St.puts (s:St):List (Nat×aU)->St
 |[]=>s
 |(k,c)::r=>(s.put k (some c)).puts r
def Ma7 (ops:List Oper)(o:Oper):RdM (Option (aP×Bool)) :=
 match o.guard with
 |none=>.ret none
 | some (j, want) =>
  match (ops[j]?).bind (·.dst) with
  | some d => .rd (kT d) fun
   |some (.slot none (.one (.sc x)))=>.ret (some (x,want))
   |some (.slot none (.one (.su _ x)))=>.ret (some (x,want))
   |_=>.no
  |none=>.no
def dE:Nat:=16
def Aad (n nb nr k:Nat):Bool :=
 bif Nat.beq (k % 3) 0 then Sb0 (k / 3) n else bif Nat.beq (k % 3) 1 then Nat.ble (k / 3) nb else Sb0 (k / 3) (nr+dE)
def Va2:List (Nat×aU)->Nat->Option aU
 |[],_=>none
 | (k', c) :: r, k => match Va2 r k with
  |some d=>some d
  |none=>bif Nat.beq k' k then some c else none
def RdM.over {α:Type}(u:List (Nat×aU)):RdM α->RdM α
 |.ret a=>.ret a
 |.no=>.no
 | .rd k f => match Va2 u k with
  |some c=>(f (some c)).over u
  |none=>.rd k fun c=>(f c).over u
def Baz:Bool->Op->Option Nat
 |true,.store _ _ (.tmp t)=>some t
 | true, .buildSlice _ _ parts => match parts.toList with
  |[(_,.tmp t)]=>some t
  |_=>none
 |_,_=>none
def Nak:Bool->Oper->Option Nat
 | true, o => match o.op with
  |.load _ _=>o.dst
  |_=>none
 |false,_=>none
def Ja5 (E:Env)(nv nr t:Nat):RdM (Option (List Step×List (Nat×aU))):=do
 match <- rdK (kT t) with
 | some (.slot none (.one (.sn deps (.path (p :: ps)) nie x))) => do
  let s <- zH (.sn deps (.path (p::ps)) nie x)
  match s.own with
  | some (r, k, m, .path (q :: qs)) =>
   bif Nat.ble (qs.length+2) m&&Sb0 t E.ntmps then do
    match <- rdK (kR r) with
    | some (.root X m' cQ .live) =>
     let (l,X'):=Naf nv X (q::qs) (.c .hole)
     .ret (some (l,[(kT t,.slot none (.one (.ex nr))),(kR nr,.root s.x (m-(qs.length+1)) 0 .live),(kR r,.root X' m (cQ+1) .live)]))
    |_=>.ret none
   else .ret none
  |_=>.ret none
 |_=>.ret none
def Vah (E:Env)(mv eR:Bool)(nv nb nr:Nat)(g:Option (aP×Bool))(o:Oper):RdM cK :=
 match Baz (eR&&noG g) o.op with
 | none => match Nak (eR && noG g && !mv) o with
  |none=>sH E mv eR nv nb nr g o
  | some t => do
   let r <- sH E mv eR nv nb nr g o
   match <- (Ja5 E (nv+bT r.lets) nr t).over r.upd with
   |some (l,u)=>.ret ⟨r.lets++l,r.upd++u⟩
   |none=>.ret r
 | some t => do
  match <- Ja5 E nv nr t with
  | some (l, u) => do
   let r <- (sH E mv false (nv+bT l) nb (nr+1) g o).over u
   .ret ⟨l++r.lets,u++r.upd⟩
  |none=>sH E mv false nv nb nr g o
def mV (E:Env)(ops:List Oper)(mv eR:Bool)(nv nb nr:Nat)(o:Oper):RdM (Option (aP×Bool)×cK):=do
 let g <- Ma7 ops o
 bZ (match o.dst with|some d=>Sb0 d E.ntmps|none=>true)
 let r <- Vah E mv eR nv nb nr g o
 bZ (r.upd.all fun x=>Aad E.ntmps nb nr x.1)
 .ret (g,r)
structure OpI where
 g:Option (aP×Bool)
 res:cK
 log:List Nat
 nb:Nat
 nr:Nat
 deriving Inhabited
def pJ (t:Tr aU)(r:Nat):Nat->Bool
 |0=>true
 |n+1=>(t.get (kR r)).isNone&&pJ t (r+1) n
def Cak (n:Nat):Pth->Bool
 |.path p=>p.all fun x=>bF n x.1
 |.suf _ x=>bF n x
 |_=>true
mutual
def aT.inScope (n:Nat):aT->Bool
 |.sc x=>bF n x
 |.su g x=>bF n x&&bF n g.1
 |.sn _ p _ x=>bF n x&&Cak n p
 |.pe l _ i _=>l.inScope n&&bF n i
 |.rp _ _ x=>bF n x
 |.clo _ l=>bK n l
 |_=>true
def bK (n:Nat):List aT->Bool
 |[]=>true
 |a::r=>a.inScope n&&bK n r
end
def zC (n:Nat):SV->Bool
 |.dead=>true
 |.one l=>l.inScope n
 |.agg ls=>bK n ls
 |.tup vs=>vs.all fun v=>bK n v.2
def dG (n:Nat):aU->Bool
 |.slot g v=>rH n g&&zC n v
 |.box _ ls=>bK n ls
 |.root x _ _ _=>bF n x
def Ebt (s:St)(g:Option (aP×Bool))(r:cK):Bool :=
 (s.tr.get (kB s.nb)).isNone&&pJ s.tr s.nr dE&&rH s.nv g&&fG s.nv r.lets&&r.upd.all fun x=>dG (s.nv+bT r.lets) x.2
def Jbd:List (Nat×aU)->Nat->Nat
 |[],n=>n
 |x::r,n=>Jbd r (bif Nat.beq (x.1 % 3) 2&&Nat.ble n (x.1 / 3) then x.1 / 3+1 else n)
def Sa8 (draw:Bool)(n:Nat)(u:List (Nat×aU)):Nat:=bif draw then n+dE else Jbd u n
def Oas (t:Tr aU)(lo:Nat):Nat->Nat
 |0=>lo
 |n+1=>bif (t.get (kR (lo+n))).isNone then Oas t lo n else lo+n+1
def trimS (draw:Bool)(lo:Nat)(s:St):St:=bif draw&&Nat.ble lo s.nr then { s with nr:=Oas s.tr lo (s.nr-lo) } else s
def Pbz (l:List (Nat×Nat))(r i:Nat):Bool:=l.any fun p=>Nat.beq p.1 r&&Nat.beq p.2 i
def Xaj (E:Env)(draw:Bool)(lj:Nat)(ops:List Oper):Nat->List Oper->St->List OpI->Sum (List OpI×St) (Nat×St×List OpI)
 |_,[],s,acc=>.inl (acc.reverse,s)
 | i, o :: os, s, acc =>
  let fl:=Pbz E.nomv lj i
  match (mV E ops (xor (!E.freezeEx) fl) (xor E.moveSn fl) s.nv s.nb s.nr o).run s.get with
  | some ((g, r), log) =>
   bif !(Ebt s g r) then .inr (i,s,acc) else Xaj E draw lj ops (i+1) os { (s.puts r.upd) with nv:=s.nv+bT r.lets,nb:=s.nb+1,nr:=Sa8 draw s.nr r.upd } ({ g,res:=r,log,nb:=s.nb,nr:=s.nr }::acc)
  |none=>.inr (i,s,acc)
def Aay (acc:List Nat):List Edge->Nat->Nat
 |[],m=>m
 |e::es,m=>Aay acc es (bif Region.binds .any e then (m ||| 2 ^ e.on) ||| acc.getD e.on 0 else m)
def waits:List Oper->List Nat->List Nat
 |[],acc=>acc
 |o::os,acc=>waits os (acc++[Aay acc o.after.toList 0])
def Dam:List Oper->Nat->Bool
 |[],_=>true
 |o::os,i=>(o.after.toList.all fun e=>!(Region.binds .any e)||Sb0 e.on i)&&Dam os (i+1)
def Nax (a:OpI)(k:Nat):Bool:=bif Nat.beq (k % 3) 1 then Nat.beq (k / 3) a.nb else bif Nat.beq (k % 3) 2 then Nat.ble a.nr (k / 3)&&Sb0 (k / 3) (a.nr+dE) else false
def sS (a b:OpI):Bool :=
 let wa:=a.res.upd.map (·.1)
 let wb:=b.res.upd.map (·.1)
 !(meets wa b.log)&&!(meets wa wb)&&!(meets a.log wb)&&!(wb.any (Nax a))
def Daa (a:OpI)(i:Nat):List OpI->List Nat->Bool
 |[],_=>true
 |b::bs,w::ws=>(Tbz w i||sS a b)&&Daa a i bs ws
 |_::_,[]=>false
def xL:List OpI->List Nat->Nat->Bool
 |[],_,_=>true
 |a::as,ws,i=>Daa a i as ws.tail&&xL as ws.tail (i+1)
def qN (g:Option (aP×Bool))(k:Tm St):List Step->Tm St
 |[]=>k
 |.prim p xs n::r=>.lt g p xs n (qN g k r)
 |.call f xs n olds::r=>.call g f xs n olds (qN g k r)
def Hag (k:Tm St):List OpI->Tm St
 |[]=>k
 |a::r=>qN a.g (Hag k r) a.res.lets
def Mao (E:Env)(pL:Bool)(lj:Nat)(ops:List Oper)(draw:Bool)(s:St):Tm St :=
 match Xaj E draw lj ops 0 ops s [] with
 | .inl (is, s') =>
  bif !draw||(Dam ops 0&&xL is (waits ops []) 0) then Hag (.leaf .fall [] (trimS draw s.nr s')) is
  else bif pL then .leaf (.exit (1000000+lj*1000+999)) [] s else .stuck
 |.inr (i,s',is)=>bif pL then .leaf (.exit (1000000+lj*1000+i)) [] s' else .stuck
def Zae:Operand->Nat
 |.tmp t=>2 ^ t
 |_=>0
def Ebr (o:Oper):Nat:=o.op.operands.toList.foldl (fun m x=>m ||| Zae x) 0
def Zan:List Oper->Nat->Nat
 |[],l=>l
 | o :: os, l =>
  let m:=Zan os l
  let m:=match o.dst,o.guard with
   |some d,none=>bif Tbz m d then m-2 ^ d else m
   |_,_=>m
  m ||| Ebr o
def Uar:List (Nat×Nat)->Nat->Nat
 |[],_=>0
 |(i,m)::r,j=>bif Nat.beq i j then m else Uar r j
def Jal:Code->List (Nat×Nat)->Nat->Nat->Nat
 |.region _ ops _,_,_,l=>Zan ops.toList l
 |.seq a b,ex,rb,l=>Jal a ex rb (Jal b ex rb l)
 |.cond c a b,ex,rb,l=>Zae c ||| Jal a ex rb l ||| Jal b ex rb l
 |.block id b,ex,rb,l=>Jal b ((id,l)::ex) rb l
 |.loop b,ex,rb,_=>Jal b ex rb (Jal b ex rb (Jal b ex rb 0))
 |.exit id,ex,_,_=>Uar ex id
 |.ret,_,rb,_=>rb
 |_,_,_,l=>l
inductive Form where
 |sc
 |nil (z:Nat)
 |ex (m:Nat)
 |sn
 |pn
 |rp (z:Nat)
 |keep (l:aT)
 |alias (i:Nat)
 |dead
 deriving Inhabited
def Kak:List (aP×Nat×Nat)->List (aP×Nat×Nat)->Bool
 |[],[]=>true
 |(a,b,c)::r,(a',b',c')::r'=>a.beq0 a'&&Nat.beq b b'&&Nat.beq c c'&&Kak r r'
 |_,_=>false
def Pth.beq0:Pth->Pth->Bool
 |.no,.no=>true
 |.view,.view=>true
 |.path p,.path q=>Kak p q
 |.suf a x,.suf b y=>Nat.beq a b&&x.beq0 y
 |_,_=>false
def yL:List (Nat×Nat)->List (Nat×Nat)->Bool
 |[],[]=>true
 |(a,b)::r,(a',b')::r'=>Nat.beq a a'&&Nat.beq b b'&&yL r r'
 |_,_=>false
mutual
def aT.beq0:aT->aT->Bool
 |.dead,.dead=>true
 |.sc x,.sc y=>x.beq0 y
 |.su g x,.su h y=>g.1.beq0 h.1&&(g.2==h.2)&&x.beq0 y
 |.ex r,.ex r'=>Nat.beq r r'
 |.sn d p n x,.sn d' p' n' x'=>yL d d'&&p.beq0 p'&&(n==n')&&x.beq0 x'
 |.px b o,.px b' o'=>Nat.beq b b'&&Nat.beq o o'
 |.pe l s i o,.pe l' s' i' o'=>l.beq0 l'&&Nat.beq s s'&&i.beq0 i'&&Nat.beq o o'
 |.rp d s x,.rp d' s' x'=>yL d d'&&Nat.beq s s'&&x.beq0 x'
 |.pn,.pn=>true
 |.clo f l,.clo f' l'=>Nat.beq f f'&&uN l l'
 |_,_=>false
def uN:List aT->List aT->Bool
 |[],[]=>true
 |a::r,b::s=>a.beq0 b&&uN r s
 |_,_=>false
end
def Cae (a b:RSt):Bool:=decide (a=b)
def Ta3 (nv:Nat)(r:Nat):List St->Bool
 |[]=>true
 | s :: rest => match s.get (kR r) with
  | some (.root x m v st) => bF nv x && rest.all fun s' => match s'.get (kR r) with
   |some (.root x' m' v' ui)=>x.beq0 x'&&Nat.beq m m'&&Nat.beq v v'&&Cae st ui
   |_=>false
  |_=>false
mutual
def Ca3:aT->List Nat
 |.ex r=>[r]
 |.sn d _ _ _=>d.map (·.1)
 |.rp d _ _=>d.map (·.1)
 |.pe l _ _ _=>Ca3 l
 |.clo _ l=>Ha8 l
 |_=>[]
def Ha8:List aT->List Nat
 |[]=>[]
 |a::r=>Ca3 a++Ha8 r
end
def Abb (s:St):aT->Form
 |.sc _=>.sc
 | .ex r => match s.get (kR r) with
  |some (.root _ m _ .live)=>.ex m
  |some (.root _ _ _ .frozen)=>.sn
  |_=>.dead
 |.sn _ _ true (.c (.rows z []))=>.nil z
 | .sn d p _ _ => match p, d with
  | .view, [(r, k)] => match s.get (kR r) with
   |some (.root _ m v .live)=>bif Nat.beq v k then .ex m else .dead
   |some (.root _ _ _ .frozen)=>.sn
   |_=>.dead
  |_,_=>.sn
 |.pn=>.pn
 |.rp _ z _=>.rp z
 |.pe _ z _ o=>bif Nat.beq o 0 then .rp z else .dead
 |_=>.dead
def Nar:Form->Form->Form
 |.sc,.sc=>.sc
 |.nil z,.nil _=>.nil z
 |.nil _,.ex m=>.ex m
 |.ex m,.nil _=>.ex m
 |.ex m,.ex m'=>.ex (min m m')
 |.nil _,.sn=>.sn
 |.sn,.nil _=>.sn
 |.ex _,.sn=>.sn
 |.sn,.ex _=>.sn
 |.sn,.sn=>.sn
 |.pn,.pn=>.pn
 |.pn,.rp z=>.rp z
 |.rp z,.pn=>.rp z
 |.rp z,.rp _=>.rp z
 |_,_=>.dead
def yA (k j:Nat)(s:St):aT :=
 match s.get k with
 |some (.slot none v)=>(uZ v).getD j .dead
 |some (.box _ ls)=>ls.getD j .dead
 |_=>.dead
def Mbz (nv k j:Nat)(jx:List St):Form :=
 match jx with
 |[]=>.dead
 | s :: rest =>
  let l:=yA k j s
  bif l.inScope nv&&rest.all (fun s'=>l.beq0 (yA k j s'))&&(Ca3 l).all (fun r=>Ta3 nv r (s::rest)) then .keep l
  else rest.foldl (fun f s'=>Nar f (Abb s' (yA k j s'))) (Abb s l)
def Mbu:Form->Bool
 |.keep _=>true
 |_=>false
structure Pos where
 k:Nat
 j:Nat
 f:Form
 deriving Inhabited
def Xaq:Option aU->Option aU->Bool
 |some (.slot none (.one _)),some (.slot none (.one _))=>true
 |some (.slot none (.agg a)),some (.slot none (.agg b))=>Nat.beq a.length b.length
 |some (.box r a),some (.box r' b)=>(r==r')&&Nat.beq a.length b.length
 |_,_=>false
def Ibs:Option aU->Nat
 |some (.slot none v)=>(uZ v).length
 |some (.box _ ls)=>ls.length
 |_=>0
def Hby (old:List Pos)(k j:Nat):Option Form:=(old.find? fun p=>Nat.beq p.k k&&Nat.beq p.j j).map (·.f)
def Gbo (s:St)(k j:Nat):Option Nat :=
 match yA k j s with
 |.ex r=>some r
 |_=>none
def Mbv:Form->Bool
 |.ex _=>true
 |_=>false
def aliasOf (jx:List St)(k j:Nat):List Pos->Nat->Option Nat
 |[],_=>none
 | p :: ps, i =>
  bif Mbv p.f&&jx.all fun s=>match Gbo s k j,Gbo s p.k p.j with
   |some r,some r'=>Nat.beq r r'
   |_,_=>false
  then some i else aliasOf jx k j ps (i+1)
def Zag:Form->Form
 |.alias _=>.ex 1000
 |f=>f
def Ya9 (nv:Nat)(jx:List St)(old:List Pos)(k:Nat):Nat->Nat->List Pos->List Pos
 |0,_,acc=>acc
 | n + 1, j, acc =>
  let f:=Mbz nv k j jx
  let f:=match Hby old k j,f with
   | some f0, .keep l => match jx with
    |s::_=>Nar (Zag f0) (Abb s l)
    |[]=>.dead
   |some f0,f=>Nar (Zag f0) f
   |none,f=>f
  let f:=bif Mbv f then (match aliasOf jx k j acc 0 with|some i=>.alias i|none=>f) else f
  Ya9 nv jx old k n (j+1) (bif Mbu f then acc else acc++[⟨k,j,f⟩])
def Iba (jx:List St)(k:Nat):Bool :=
 match jx with
 |s::rest=>rest.all fun s'=>Xaq (s.get k) (s'.get k)&&(match s.get k with | some (.slot (some _) _)=>false | some (.slot _ (.tup _))=>false | some (.slot _ .dead)=>false | some _=>true | none=>false)
 |[]=>false
def Hb9 (jx:List St)(k:Nat):Bool :=
 match jx with
 |[s]=>Xaq (s.get k) (s.get k)
 |_=>Iba jx k
def range (a:Nat):Nat->List Nat
 |0=>[]
 |n+1=>a::range (a+1) n
def Nan (E:Env)(nb:Nat)(live:Nat)(jx:List St):List Nat :=
 ((range E.ntmps E.ngh).filter fun t=>Hb9 jx (kT t)).map kT++((range 0 E.ntmps).filter fun t=>Tbz live t&&Hb9 jx (kT t)).map kT++((range 0 nb).filter fun b=>Hb9 jx (kB b)).map kB
def Pa0 (nv:Nat)(jx:List St)(old:List Pos):List Nat->List Pos->List Pos
  |[],acc=>acc
  | k :: ks, acc => Pa0 nv jx old ks (match jx with
     |s::_=>Ya9 nv jx old k (Ibs (s.get k)) 0 acc
     |[]=>acc)
def Gbi (nv:Nat)(jx:List St)(old:List Pos)(ks:List Nat):List Pos:=Pa0 nv jx old ks []
def Hbi (c:aU)(j:Nat)(l:aT):aU :=
 match c with
 |.slot g (.one _)=>.slot g (match l with | .dead=>.dead | l=>.one l)
 |.slot g (.agg ls)=>.slot g (.agg (ls.set j l))
 |.box ro ls=>.box ro (ls.set j l)
 |c=>c
def lQ (nv nr:Nat):List Pos->Nat->St->St
 |[],_,s=>s
 | p :: ps, i, s =>
  let put (l:aT) (s:St):St:=match s.get p.k with
   |some c=>s.put p.k (some (Hbi c p.j l))
   |none=>s
  match p.f with
  |.sc=>lQ nv nr ps (i+1) (put (.sc (.v (nv+i))) s)
  |.ex m=>lQ nv nr ps (i+1) ((put (.ex (nr+i)) s).put (kR (nr+i)) (some (.root (.v (nv+i)) m 0 .live)))
  |.sn=>lQ nv nr ps (i+1) (put (.sn [] .no false (.v (nv+i))) s)
  |.nil z=>lQ nv nr ps (i+1) (put (.sn [] .no true (.v (nv+i))) s)
  |.rp z=>lQ nv nr ps (i+1) (put (.rp [] z (.v (nv+i))) s)
  |.pn=>lQ nv nr ps (i+1) (put .pn s)
  |.alias a=>lQ nv nr ps (i+1) (put (.ex (nr+a)) s)
  |_=>lQ nv nr ps (i+1) (put .dead s)
def Eb9 (s:St)(k j:Nat):List Nat :=
 match yA k j s with
 |.ex r=>[r]
 |.sn [(r,_)] .view _ _=>[r]
 |_=>[]
def Qbw:Form->Bool
 |.sn=>true
 |.rp _=>true
 |_=>false
def Qbx:Form->Bool
 |.ex _=>true
 |.alias _=>true
 |_=>false
def Pay (nv:Nat)(cE:List Pos)(jx:List St):List Nat->St->St
 |[],s=>s
 | r :: rs, s =>
  let taken:=cE.any fun p=>Qbx p.f&&jx.any fun s'=>has (Eb9 s' p.k p.j) r
  let froz:=cE.any fun p=>Qbw p.f&&jx.any fun s'=>has (Ca3 (yA p.k p.j s')) r
  let sameX:=match jx with
   | s0 :: rest => match s0.get (kR r) with
    | some (.root x m v st) => bF nv x && !(Cae st .gone) && rest.all fun s' => match s'.get (kR r) with
     |some (.root x' _ _ ui)=>x.beq0 x'&&!(Cae ui .gone)
     |_=>false
    |_=>false
   |[]=>false
  let c:Option aU :=
   bif taken then some (.root (.c .hole) 0 0 .gone)
   else bif Ta3 nv r jx&&!froz then (match jx with|s0::_=>s0.get (kR r)|[]=>none)
   else bif sameX then (match jx with|s0::_=>(match s0.get (kR r) with|some (.root x m v _)=>some (.root x m v .frozen)|c=>c)|[]=>none)
   else some (.root (.c .hole) 0 0 .gone)
  Pay nv cE jx rs (s.put (kR r) c)
def Nad (s:St):List Nat->Tr aU->Tr aU
 |[],t=>t
 |k::ks,t=>Nad s ks (t.set 16 k (s.get k))
def template (E:Env)(nv nb nr gp:Nat)(jx:List St)(keys:List Nat)(cE:List Pos):St :=
 match jx with
 |[]=>⟨.nil,nv,nb,nr,0⟩
 | s :: _ =>
  let s1:St:=⟨Nad s keys .nil,nv+cE.length,nb,gp+cE.length,s.nt⟩
  lQ nv gp cE 0 (Pay nv cE jx (range 0 nr) s1)
def Qbi (j:Nat)(l:aT):aU->Option aU
 |.slot none (.one _)=>bif Nat.beq j 0 then some (.slot none (.one l)) else none
 |.slot none (.agg ls)=>some (.slot none (.agg (ls.set j l)))
 |.box ro ls=>some (.box ro (ls.set j l))
 |_=>none
def putAt (k j:Nat)(l:aT)(s:St):St :=
 match (s.get k).bind (Qbi j l) with
 |some c=>s.put k (some c)
 |none=>s
def Ma6 (E:Env)(p:Pos)(nr i:Nat)(s:St):Option (List Step×St×aP) :=
 let put (l:aT) (s:St):St:=putAt p.k p.j l s
 let rNew:=nr+i
 match p.f,yA p.k p.j s with
 |.sc,.sc x=>some ([],s,x)
 | .alias a, .ex r => match s.get (kR r) with
  |some (.root _ _ _ (.fwd r'))=>bif Nat.beq r' (nr+a) then some ([],put (.ex (nr+a)) s,.c .undef) else lM 5001
  |_=>lM 5002
 |.nil z,.sn [] .no true x=>some ([],s,x)
 | .ex m, .ex r => match s.get (kR r) with
  |some (.root x m' v .live)=>bif Nat.ble m m' then some ([],put (.ex rNew) (s.puts [(kR r,.root (.c .hole) 0 0 (.fwd rNew)),(kR rNew,.root x m 0 .live)]),x) else lM 5003
  |_=>lM 5004
 |.ex m,.sn [] _ true (.c (.rows z []))=>some ([],put (.ex rNew) (s.puts [(kR rNew,.root (.c (.rows z [])) m 0 .live)]),.c (.rows z []))
 | .ex m, .sn [(r, k)] .view _ x => match s.get (kR r) with
  |some (.root _ m' v .live)=>bif Nat.ble m m'&&Nat.beq v k then some ([],put (.ex rNew) (s.puts [(kR r,.root (.c .hole) 0 0 .gone),(kR rNew,.root x m 0 .live)]),x) else lM 5005
  |_=>lM 5006
 | .sn, l =>
  match ((do let s <- zH l;let fr <- eF (s.deps.map (·.1));RdM.ret (s.x,fr):RdM (aP×List (Nat×aU)))).eval s.get with
  |some (x,fr)=>some ([],put (.sn [] .no false x) (s.puts fr),x)
  |none=>lM 5007
 |.rp z,.pn=>some ([],put (.rp [] z (.c (.rows z []))) s,.c (.rows z []))
 | .rp z, .rp deps z' x =>
  match ((do let d <- xI deps;eF (d.map (·.1)):RdM (List (Nat×aU)))).eval s.get with
  |some fr=>some ([],put (.rp [] z x) (s.puts fr),x)
  |none=>lM 5008
 | .rp z, .pe l z' i 0 =>
  match ((do let s <- zH l;let fr <- eF (s.deps.map (·.1));RdM.ret (s.x,fr):RdM (aP×List (Nat×aU)))).eval s.get with
  |some (x,fr)=>some ([.prim (.one z') [x,i] 1],{ (put (.rp [] z (.v s.nv)) (s.puts fr)) with nv:=s.nv+1 },.v s.nv)
  |none=>lM 5009
 |.pn,.pn=>some ([],s,.c .undef)
 |.dead,_=>some ([],s,.c .undef)
 |_,_=>lM (4000000+1000*p.k+p.j)
def lH (E:Env)(nr:Nat):List Pos->Nat->St->Option (List Step×St×List aP)
 |[],_,s=>some ([],s,[])
 | p :: ps, i, s => do
  let (l,s,x) <- Ma6 E p nr i s
  let (l',s,xs) <- lH E nr ps (i+1) s
  some (l++l',s,x::xs)
def iV (τ:St):List Nat->St->Option St
 |[],s=>some s
 | r :: rs, s =>
  match τ.get (kR r),s.get (kR r) with
  |some (.root _ _ _ .frozen),some (.root x m v .live)=>iV τ rs (s.put (kR r) (some (.root x m v .frozen)))
  |_,_=>iV τ rs s
def Oa3 (n:Nat)(xs:List aP):aP->aP
 |.v i=>bif Sb0 i n then .v i else xs.getD (i-n) (.c .hole)
 |.c d=>.c d
def Qbs (n:Nat)(xs:List aP):Pth->Pth
 |.path p=>.path (p.map fun x=>(Oa3 n xs x.1,x.2))
 |.suf sz lo=>.suf sz (Oa3 n xs lo)
 |p=>p
def Tau (dj eW r:Nat):Nat:=bif Nat.ble dj r then eW+(r-dj) else r
mutual
def aT.sub (n:Nat)(xs:List aP)(dj eW:Nat):aT->aT
 |.sc x=>.sc (Oa3 n xs x)
 |.su g x=>.su (Oa3 n xs g.1,g.2) (Oa3 n xs x)
 |.ex r=>.ex (Tau dj eW r)
 |.sn d p e x=>.sn d (Qbs n xs p) e (Oa3 n xs x)
 |.pe l s i o=>.pe (l.sub n xs dj eW) s (Oa3 n xs i) o
 |.rp d s x=>.rp d s (Oa3 n xs x)
 |.clo f l=>.clo f (iW n xs dj eW l)
 |l=>l
def iW (n:Nat)(xs:List aP)(dj eW:Nat):List aT->List aT
 |[]=>[]
 |a::r=>a.sub n xs dj eW::iW n xs dj eW r
end
def zO (a b:aT):Bool :=
 match a with
 |.dead=>Oa4 b
 | .sn d .no false x => match b with
  |.sn d' _ _ x'=>yL d d'&&x.beq0 x'
  |_=>false
 |a=>a.beq0 b
def fC:List aT->List aT->Bool
 |[],[]=>true
 |a::r,b::s=>zO a b&&fC r s
 |_,_=>false
def dH (n:Nat)(xs:List aP)(dj eW:Nat):Option aU->Option aU->Bool
 |none,_=>true
 |some (.slot none .dead),_=>true
 |some (.slot none (.one a)),some (.slot none (.one b))=>zO (a.sub n xs dj eW) b
 |some (.slot none (.agg a)),some (.slot none (.agg b))=>fC (iW n xs dj eW a) b
 |some (.box r a),some (.box r' b)=>(r==r')&&fC (iW n xs dj eW a) b
 |some (.root x m v .gone),_=>true
 |some (.root x m v st),some (.root x' m' v' ui)=>Cae st ui&&Nat.beq m m'&&Nat.beq v v'&&(Oa3 n xs x).beq0 x'
 |_,_=>false
def Dad (n:Nat)(xs:List aP)(dj eW:Nat)(τ s:St):List Nat->Bool
 |[]=>true
 |k::ks=>dH n xs dj eW (τ.get k) (s.get k)&&Dad n xs dj eW τ s ks
def Daf (n:Nat)(xs:List aP)(dj eW:Nat)(τ s:St):List Nat->Bool
 |[]=>true
 |r::rs=>dH n xs dj eW (τ.get (kR r)) (s.get (kR (Tau dj eW r)))&&Daf n xs dj eW τ s rs
def pF (E:Env)(n:Nat)(xs:List aP)(fu dj eW len:Nat)(τ s:St):Bool :=
 Dad n xs dj eW τ s ((range 0 (E.ntmps+E.ngh)).map kT++(range 0 τ.nb).map kB)&&Daf n xs dj eW τ s (range 0 fu++range dj len)
def mR (b c k:Nat):Nat:=bif Nat.beq k b then c else bif Nat.beq k c then b else k
mutual
def aT.swap (b c:Nat):aT->aT
 |.px k o=>.px (mR b c k) o
 |.pe l s i o=>.pe (l.swap b c) s i o
 |.clo f l=>.clo f (dF b c l)
 |l=>l
def dF (b c:Nat):List aT->List aT
 |[]=>[]
 |a::r=>a.swap b c::dF b c r
end
def Xak (b c:Nat):SV->SV
 |.dead=>.dead
 |.one l=>.one (l.swap b c)
 |.agg ls=>.agg (dF b c ls)
 |.tup ts=>.tup (ts.map fun t=>(t.1,dF b c t.2))
def qA (b c:Nat):aU->aU
 |.slot g v=>.slot g (Xak b c v)
 |.box ro ls=>.box ro (dF b c ls)
 |.root x m v st=>.root x m v st
def nT (b c k:Nat):Nat:=bif Nat.beq (k % 3) 1 then kB (mR b c (k / 3)) else k
def Par (f:Nat->Option aU):List Nat->Tr aU->Tr aU
 |[],t=>t
 |k::ks,t=>Par f ks (t.set 16 k (f k))
def St.swap (s:St)(b c:Nat):St:={ s with tr:=Par (fun k=>(s.get (nT b c k)).map (qA b c)) ((range 0 s.nt).map kT++(range 0 s.nb).map kB++(range 0 s.nr).map kR) s.tr }
def Sal (E:Env)(τ:St):List Nat->St->St
 |[],s=>s
 | t :: ts, s => Sal E τ ts (match τ.get (kT t), s.get (kT t) with
  | some (.slot none (.one (.px b 0))), some (.slot none (.one (.px c 0))) =>
   bif !(Nat.beq b c)&&Nat.ble E.nbx b&&Nat.ble E.nbx c&&Sb0 b s.nb&&Sb0 c s.nb then s.swap b c else s
  |_,_=>s)
def Ia2 (E:Env)(n fu dj:Nat)(cE:List Pos)(τ:St)(kind:Kind)(s:St):Option (Tm St):=do
 let (ls,s1,xs) <- lH E s.nr cE 0 { s with nr:=s.nr+cE.length }
 let s2 <- iV τ (range 0 fu) s1
 bif pF E n xs fu dj s.nr cE.length τ s2&&pJ s.tr s.nr cE.length&&Nat.ble fu s.nr&&fG s.nv ls&&xs.all (bF (s.nv+bT ls)) then some (qN none (.leaf kind xs s2) ls) else lM 1
def coerce (E:Env)(n fu dj:Nat)(cE:List Pos)(τ:St)(kind:Kind)(s:St):Option (Tm St):=Ia2 E n fu dj cE τ kind (Sal E τ E.pxs s)
def Tm.no {β:Type}(f:Kind->Bool):Tm β->Bool
 |.leaf k _ _=>!(f k)
 |.stuck=>true
 |.lt _ _ _ _ k=>k.no f
 |.call _ _ _ _ _ k=>k.no f
 |.ite _ t e=>t.no f&&e.no f
 |.bind _ t k=>t.no f&&k.no f
 |.loop _ b=>b.no f
def rX:Kind->Bool
 |.fall=>true
 |_=>false
def Rae (id:Nat):Kind->Bool
 |.fall=>true
 |.exit j=>Nat.beq id j
 |_=>false
def rD (id:Nat):Kind->Bool
 |.exit j=>Nat.beq id j
 |_=>false
def Nas (i:Nat):Kind->Bool
 |.yield j=>Nat.beq i j
 |_=>false
def Uah:Kind->Bool
 |.cont=>true
 |_=>false
def Tm.falls:Tm St->List St
 |.leaf .fall _ s=>[s]
 |.leaf _ _ _=>[]
 |.stuck=>[]
 |.lt _ _ _ _ k=>k.falls
 |.call _ _ _ _ _ k=>k.falls
 |.ite _ t e=>t.falls++e.falls
 |.bind _ _ k=>k.falls
 |.loop _ _=>[]
def Tm.exits (id:Nat):Tm St->List St
 |.leaf (.exit j) _ s=>bif Nat.beq j id then [s] else []
 |.leaf _ _ _=>[]
 |.stuck=>[]
 |.lt _ _ _ _ k=>k.exits id
 |.call _ _ _ _ _ k=>k.exits id
 |.ite _ t e=>t.exits id++e.exits id
 |.bind _ t k=>t.exits id++k.exits id
 |.loop _ b=>b.exits id
def Tm.tailExits (id:Nat):Tm St->List St
 |.leaf (.exit j) _ s=>bif Nat.beq j id then [s] else []
 |.leaf _ _ _=>[]
 |.stuck=>[]
 |.lt _ _ _ _ k=>k.tailExits id
 |.call _ _ _ _ _ k=>k.tailExits id
 |.ite _ t e=>t.tailExits id++e.tailExits id
 |.bind _ t k=>k.tailExits id
 |.loop _ b=>[]
def Tm.graft (f:St->Option (Tm St)):Tm St->Option (Tm St)
 |.leaf .fall _ s=>f s
 |.leaf k xs s=>some (.leaf k xs s)
 |.stuck=>some .stuck
 |.lt g p xs n k=>(k.graft f).map fun k=>.lt g p xs n k
 |.call g c xs n o k=>(k.graft f).map fun k=>.call g c xs n o k
 |.ite c t e=>(t.graft f).bind fun t=>(e.graft f).map fun e=>.ite c t e
 |.bind i t k=>bif t.no rX then (k.graft f).map fun k=>.bind i t k else none
 |.loop i b=>bif b.no rX then some (.loop i b) else none
def Tm.exitFall (id:Nat):Tm St->Option (Tm St)
 |.leaf (.exit j) xs s=>some (bif Nat.beq id j then .leaf .fall [] s else .leaf (.exit j) xs s)
 |.leaf k xs s=>some (.leaf k xs s)
 |.stuck=>some .stuck
 |.lt g p xs n k=>(k.exitFall id).map fun k=>.lt g p xs n k
 |.call g c xs n o k=>(k.exitFall id).map fun k=>.call g c xs n o k
 |.ite c t e=>(t.exitFall id).bind fun t=>(e.exitFall id).map fun e=>.ite c t e
 |.bind i t k=>bif t.no (rD id) then (k.exitFall id).map fun k=>.bind i t k else none
 |.loop i b=>bif b.no (rD id) then some (.loop i b) else none
def Tm.turn (out:Kind)(kc:Kind->Bool)(f:St->Option (Tm St)):Tm St->Option (Tm St)
 |.leaf k xs s=>bif kc k then f s else some (.leaf k xs s)
 |.stuck=>some .stuck
 |.lt g p xs n k=>(k.turn out kc f).map fun k=>.lt g p xs n k
 |.call g c xs n o k=>(k.turn out kc f).map fun k=>.call g c xs n o k
 |.ite c t e=>(t.turn out kc f).bind fun t=>(e.turn out kc f).map fun e=>.ite c t e
 | .bind i t k =>
  bif Nas i out then (bif t.no kc then (k.turn out kc f).map fun k=>.bind i t k else none)
  else (t.turn out kc f).bind fun t=>(k.turn out kc f).map fun k=>.bind i t k
 |.loop i b=>bif Uah out then (bif b.no kc then some (.loop i b) else none) else (b.turn out kc f).map fun b=>.loop i b
def Mbm (l:List St)(n:Nat):Nat:=l.foldl (fun m s=>max m s.nr) n
def Qa0 (τ:St)(fu:Nat):List (Nat×Nat)->Bool
 |[]=>true
 | (r, k) :: d => Sb0 r fu && (match τ.get (kR r) with
  |some (.root _ _ _ .gone)=>true
  |some (.root _ _ _ (.fwd _))=>true
  |some (.root _ _ v _)=>Nat.ble k v
  |_=>false)&&Qa0 τ fu d
mutual
def aT.wf (τ:St)(fu:Nat):aT->Bool
 |.ex r=>(τ.get (kR r)).isSome
 |.sn d _ _ _=>Qa0 τ fu d
 |.px b _=>(τ.get (kB b)).isSome
 |.pe l _ _ _=>l.wf τ fu
 |.rp d _ _=>Qa0 τ fu d
 |.clo _ l=>pU τ fu l
 |_=>true
def pU (τ:St)(fu:Nat):List aT->Bool
 |[]=>true
 |a::r=>a.wf τ fu&&pU τ fu r
end
def uQ (τ:St)(fu k:Nat):Option aU->Bool
 |none=>true
 | some c => dG τ.nv c && (match c with
  |.slot none .dead=>Nat.beq (k % 3) 0
  |.slot none (.one l)=>Nat.beq (k % 3) 0&&l.wf τ fu
  |.slot none (.agg ls)=>Nat.beq (k % 3) 0&&pU τ fu ls
  |.box _ ls=>Nat.beq (k % 3) 1&&pU τ fu ls
  |.root _ _ _ (.fwd _)=>false
  |.root _ _ _ _=>Nat.beq (k % 3) 2
  |_=>false)
def Ga5 (τ:St)(fu:Nat):List Nat->Bool
 |[]=>true
 |k::ks=>uQ τ fu k (τ.get k)&&Ga5 τ fu ks
def Uad (τ:St):List Nat->Bool
 |[]=>true
 |k::ks=>(τ.get k).isNone&&Uad τ ks
def Fai (E:Env)(s0:St)(dj len:Nat)(τ:St):Bool :=
 Nat.beq τ.nv (s0.nv+len)&&Nat.ble E.ntmps τ.nt&&Nat.ble τ.nt (E.ntmps+E.ngh)&&Nat.beq τ.nr (dj+len)&&Nat.ble s0.nr dj &&
 Uad τ ((range s0.nr (dj-s0.nr)).map kR)&&Ga5 τ s0.nr ((range 0 τ.nt).map kT++(range 0 τ.nb).map kB++((range 0 s0.nr++range dj len).map kR))
def join (E:Env)(live:Nat)(s0:St)(i:Nat)(kc:Kind->Bool)(ends:List St)(t:Tm St):Option (Tm St×St) :=
 let keys:=Nan E s0.nb live ends
 let cE:=Gbi s0.nv ends [] keys
 let gp:=Mbm ends s0.nr
 let τ:=template E s0.nv s0.nb s0.nr gp ends keys cE
 bif Fai E s0 gp cE.length τ then (t.turn (.yield i) kc (coerce E s0.nv s0.nr gp cE τ (.yield i))).map fun t=>(t,τ) else lM 6
def Saj (a b:List Pos):Bool :=
 match a,b with
 |[],[]=>true
 | p :: ps, q :: qs => Nat.beq p.k q.k && Nat.beq p.j q.j && (match p.f, q.f with
  |.sc,.sc=>true
  |.nil _,.nil _=>true
  |.ex m,.ex m'=>Nat.beq m m'
  |.sn,.sn=>true
  |.pn,.pn=>true
  |.rp _,.rp _=>true
  |.dead,.dead=>true
  |.alias i,.alias j=>Nat.beq i j
  |_,_=>false)&&Saj ps qs
 |_,_=>false
def Pai (τ:St)(ends:List St):List Nat->Bool
 |[]=>true
 | r :: rs => (match τ.get (kR r) with
  | some (.root _ m v st) => Cae st .gone || ends.all fun s => match s.get (kR r) with
   |some (.root _ m' v' ui)=>(Nat.beq m m'&&Nat.beq v v'&&Cae st ui)||(Cae st .frozen&&Cae ui .live)
   |_=>false
  |_=>true)&&Pai τ ends rs
def Ha2 (E:Env)(live:Nat)(s:St)(body:St->Option (Tm St)):Nat->List Pos->List Nat->Nat->List St->Option (Tm St)
 |0,_,_,_,_=>lM 3
 | fuel + 1, cE, keys, gp, seen =>
  let τ:=template E s.nv s.nb s.nr gp (s::seen) keys cE
  match body τ with
  |none=>none
  | some tb =>
   let ends:=tb.falls.map (Sal E s E.pxs)
   let keys':=Nan E s.nb live (s::ends)
   let plan':=Gbi s.nv (s::ends) cE keys'
   bif Saj cE plan'&&Nat.beq keys.length keys'.length&&Pai τ ends (range 0 s.nr) then do
    let (pre,s1,xs) <- lH E s.nr cE 0 { s with nr:=s.nr+cE.length }
    let s2 <- iV τ (range 0 s.nr) s1
    bif pF E s.nv xs s.nr gp s.nr cE.length τ s2&&pJ s.tr s.nr cE.length&&pre.isEmpty&&Fai E s gp cE.length τ then do
     let tb <- tb.turn .cont rX (coerce E s.nv s.nr gp cE τ .cont)
     some (.loop xs tb)
    else lM 2
   else Ha2 E live s body fuel plan' keys' (Mbm ends gp) ends
def Abw:Operand->Option Bool
 |.const (.bool b)=>some b
 |_=>none
def Qan:Code->Nat
 |.region r _ _=>r
 |.seq a _=>Qan a
 |.cond _ a _=>Qan a
 |.block _ b=>Qan b
 |.loop b=>Qan b
 |_=>0
def hintOf:List (Nat×List (Nat×Nat×Nat×Nat)×List Nat×Nat×List Nat)->Nat->Option (List (Nat×Nat×Nat×Nat)×List Nat×Nat×List Nat)
 |[],_=>none
 |(k,h)::r,n=>bif Nat.beq k n then some h else hintOf r n
def Mby (c z:Nat):Form :=
 match c with
 |0=>.sc
 |1=>.nil z
 |2=>.ex z
 |3=>.sn
 |4=>.pn
 |5=>.rp z
 |6=>.alias z
 |_=>.dead
def Gbd (s:St):List Nat->St->St
 |[],t=>t
 | d :: ds, t => Gbd s ds (t.put (kR (d / 3)) (match d % 3 with
  |0=>some (.root (.c .hole) 0 0 .gone)
  |1=>s.get (kR (d / 3))
  | _ => match s.get (kR (d / 3)) with
   |some (.root x m v _)=>some (.root x m v .frozen)
   |c=>c))
def Naj (E:Env)(s:St)(body:St->Option (Tm St))(h:List (Nat×Nat×Nat×Nat)×List Nat×Nat×List Nat):Option (Tm St) :=
 let cE:List Pos:=h.1.map fun p=>⟨p.1,p.2.1,Mby p.2.2.1 p.2.2.2⟩
 let gp:=s.nr+h.2.2.1
 let τ:=lQ s.nv gp cE 0 (Gbd s h.2.2.2 ⟨Nad s h.2.1 .nil,s.nv+cE.length,s.nb,gp+cE.length,s.nt⟩)
 match body τ with
 |none=>none
 | some tb => do
  let (pre,s1,xs) <- lH E s.nr cE 0 { s with nr:=s.nr+cE.length }
  let s2 <- iV τ (range 0 s.nr) s1
  bif pF E s.nv xs s.nr gp s.nr cE.length τ s2&&pJ s.tr s.nr cE.length&&pre.isEmpty&&Fai E s gp cE.length τ then do
   let tb <- tb.turn .cont rX (coerce E s.nv s.nr gp cE τ .cont)
   some (.loop xs tb)
  else lM 2
def sxC (E:Env)(pL:Bool)(rb:Nat):Code->List (Nat×Nat)->Nat->St->Option (Tm St)
 |.skip,_,_,s=>some (.leaf .fall [] s)
 |.label _,_,_,s=>some (.leaf .fall [] s)
 |.ret,_,_,s=>some (.leaf .ret [] s)
 |.exit id,_,_,s=>some (.leaf (.exit id) [] s)
 |.region lj ops draw,_,_,s=>some (Mao E pL lj ops.toList draw s)
 | .seq a b, ex, live, s => do
  let mid:=Jal b ex rb live
  let t <- sxC E pL rb a ex mid s
  bif t.no rX then some t else
  match t.falls with
  |[_]=>t.graft (sxC E pL rb b ex live)
  | ends => do
   let (t,τ) <- join E mid s 0 rX ends t
   let k <- sxC E pL rb b ex live τ
   some (.bind 0 t k)
 | .cond c a b, ex, live, s =>
  match Abw c with
  |some true=>sxC E pL rb a ex live s
  |some false=>sxC E pL rb b ex live s
  |none =>
  match s.get (match c with|.tmp t=>kT t|_=>0),c with
  | some (.slot none (.one (.sc x))), .tmp t => bif !(bF s.nv x && Sb0 t E.ntmps) then some .stuck else do
   let t <- sxC E pL rb a ex live s
   let e <- sxC E pL rb b ex live s
   some (.ite x t e)
  |_,_=>some .stuck
 | .block id b, ex, live, s => do
  let t <- sxC E pL rb b ((id,live)::ex) live s
  bif t.no (rD id) then some t else
  match t.falls,t.exits id,t.tailExits id with
  |[],[_],[_]=>t.exitFall id
  | fs, es, _ => do
   let (t,τ) <- join E live s (id+1) (Rae id) (fs++es) t
   some (.bind (id+1) t (.leaf .fall [] τ))
 | .loop b, ex, _, s =>
  let live':=Jal (.loop b) ex rb 0
  match hintOf E.hints (Qan b) with
  |some h=>Naj E s (sxC E pL rb b ex live') h
  |none=>Ha2 E live' s (sxC E pL rb b ex live') 9 [] (Nan E s.nb live' [s]) s.nr []
 |.scope _,_,_,_=>some .stuck
 |.goto _,_,_,_=>some .stuck
 |.rangeFunc _ _ _ _,_,_,_=>some .stuck
 |.refuse _,_,_,_=>some .stuck
def jN (i nr:Nat):LS->aT×List (Nat×aU)×Nat×Nat
 |.sc=>(.sc (.v i),[],i+1,nr)
 |.fz nie=>(.sn [] .no nie (.v i),[],i+1,nr)
 |.mu m=>(.ex nr,[(kR nr,.root (.v i) m 0 .live)],i+1,nr+1)
 |.ow m=>(.ex nr,[(kR nr,.root (.v i) m 0 .live)],i+1,nr+1)
 |.px b=>(.px b 0,[],i,nr)
 |.clo f cs=>(.clo f (cs.map fun c=>match c with | .px b=>.px b 0 | _=>.dead),[],i,nr)
 |.rp z=>(.rp [] z (.v i),[],i+1,nr)
def eG (i nr:Nat):List LS->List aT×List (Nat×aU)×Nat×Nat
 |[]=>([],[],i,nr)
 | s :: ss =>
  let (l,u,i,nr):=jN i nr s
  let (ls,us,i,nr):=eG i nr ss
  (l::ls,u++us,i,nr)
def kV (t i nr:Nat):List (Bool×List LS)->List (Nat×aU)×Nat×Nat
 |[]=>([],i,nr)
 | (a, ss) :: ps =>
  let (ls,u,i,nr):=eG i nr ss
  let (us,i,nr):=kV (t+1) i nr ps
  ((kT t,.slot none (match Tat a ls with|some v=>v|none=>.dead))::u++us,i,nr)
def iK (i nr:Nat):BS->aT×List (Nat×aU)×Nat×Nat
 |.sc=>(.sc (.v i),[],i+1,nr)
 |.fz nie=>(.sn [] .no nie (.v i),[],i+1,nr)
 |.ow m=>(.ex nr,[(kR nr,.root (.v i) m 0 .live)],i+1,nr+1)
 |.ot=>(.dead,[],i,nr)
def iG (i nr:Nat):List (BS×BO)->List aT×List (Nat×aU)×Nat×Nat
 |[]=>([],[],i,nr)
 | (s, _) :: ss =>
  let (l,u,i,nr):=iK i nr s
  let (ls,us,i,nr):=iG i nr ss
  (l::ls,u++us,i,nr)
def lV (b i nr:Nat):List (Bool×List (BS×BO))->List (Nat×aU)×Nat×Nat
 |[]=>([],i,nr)
 | (ro, cs) :: bs =>
  let (ls,u,i,nr):=iG i nr cs
  let (us,i,nr):=lV (b+1) i nr bs
  ((kB b,.box ro ls)::u++us,i,nr)
def fI (r:Nat):List LS->List Nat
 |[]=>[]
 |.mu _::ss=>r::fI (r+1) ss
 |.ow _::ss=>fI (r+1) ss
 |_::ss=>fI r ss
def uP (t:Nat):List aT->List (Nat×aU)
 |[]=>[]
 |l::ls=>(kT t,.slot none (.one l))::uP (t+1) ls
def Qaj (s:Sig):List aT:=(fI 0 (s.params.flatMap (·.2))).map aT.ex++(range 0 s.boxes.length).map fun b=>aT.px b 0
def oZ (s:Sig):Nat:=(Qaj s).length
def entry (s:Sig)(ntmps:Nat):St :=
 let (u,i,nr):=kV 0 0 0 s.params
 let (v,i,nr):=lV 0 i nr s.boxes
 (St.puts ⟨.nil,i,s.boxes.length,nr,ntmps+oZ s⟩ (u++v++uP ntmps (Qaj s)))
structure Fin where
 xs:List aP
 own:List (Nat×Nat×Nat)
 q:Nat
 frz:List Nat
 lets:List Step
 bxs:List Nat
def Aas (F:Fin)(r m:Nat)(x:aP):Fin:={ F with xs:=F.xs++[x],own:=F.own++[(r,2*F.q,m)],q:=F.q+1 }
def Uap (F:Fin)(z:Nat):Fin:={ F with xs:=F.xs++[.c (.rows z [])],q:=F.q+1 }
def Qaq (F:Fin)(m:Nat):aT->RdM Fin
 |.sn [] _ true (.c (.rows z []))=>.ret (Uap F z)
 | .ex r => do
  match <- rdK (kR r) with
  | some (.root x m' v .live) => do
   bZ (Nat.ble m m')
   .ret (Aas F r m x)
  |_=>.no
 | .sn [(r, k)] .view _ x => do
  match <- rdK (kR r) with
  | some (.root _ m' v .live) => do
   bZ (Nat.ble m m'&&Nat.beq v k)
   .ret (Aas F r m x)
  |_=>.no
 |_=>.no
def Qas (F:Fin)(l:aT):RdM Fin:=do
 let s <- zH l
 .ret { F with xs:=F.xs++[s.x],frz:=F.frz++s.deps.map (·.1) }
def Iar (nv:Nat)(F:Fin):LR->aT->RdM Fin
 |.sc,.sc x=>.ret { F with xs:=F.xs++[x] }
 |.fz,l=>Qas F l
 |.ow m,l=>Qaq F m l
 |.rp z,.pn=>.ret { F with xs:=F.xs++[.c (.rows z [])] }
 | .rp z, .rp deps z' x => do
  let d <- xI deps
  .ret { F with xs:=F.xs++[x],frz:=F.frz++d.map (·.1) }
 | .rp z, .pe l z' i 0 => do
  let s <- zH l
  .ret { F with xs:=F.xs++[.v (nv+bT F.lets)],frz:=F.frz++s.deps.map (·.1),lets:=F.lets++[.prim (.one z') [s.x,i] 1] }
 |_,_=>.no
def Ea0 (F:Fin):BO->aT->RdM Fin
 |.sc,.sc x=>.ret { F with xs:=F.xs++[x] }
 |.fz,l=>Qas F l
 |.ow m,l=>Qaq F m l
 |.dead,l=>bif Oa4 l then .ret { F with xs:=F.xs++[.c .hole] } else .no
 |_,_=>.no
def kH:Fin->List BO->List aT->RdM Fin
 |F,[],[]=>.ret F
 | F, s :: ss, l :: ls => do
  let F <- Ea0 F s l
  kH F ss ls
 |_,_,_=>.no
def jA (nv:Nat):Fin->List LR->List aT->RdM Fin
 |F,[],[]=>.ret F
 | F, s :: ss, l :: ls => do
  let F <- (match s,l with
   | .bx cs, .px b 0 => do
    match <- rdK (kB b) with
    |some (.box false bs)=>kH { F with bxs:=F.bxs++[b] } cs bs
    |_=>.no
   |s,l=>Iar nv F s l)
  jA nv F ss ls
 |_,_,_=>.no
def rM (E:Env)(nv:Nat):Fin->List (Bool×List LR)->List ResultVar->RdM Fin
 |F,[],[]=>.ret F
 | F, (a, ss) :: rs, .tmp t :: vs => do
  match <- rdK (kT t) with
  | some (.slot none v) => do
   bZ (Sb0 t E.ntmps)
   let ls <- pR (lI a v)
   let F <- jA nv F ss ls
   rM E nv F rs vs
  |_=>.no
 | F, (a, ss) :: rs, .cell t ty :: vs => do
  let ti <- pR (E.ti ty)
  bZ ((a==ti.agg)&&Nat.beq ss.length ti.size&&(ti.agg||Nat.beq ti.size 1)&&Sb0 t E.ntmps)
  match <- rdK (kT t) with
  | some (.slot none (.one (.px b off))) => do
   match <- rdK (kB b) with
   | some (.box _ ls) => do
    let F <- jA nv F ss ((ls.drop off).take ti.size)
    rM E nv F rs vs
   |_=>.no
  |_=>.no
 |_,_,_=>.no
def eU:List LS->List Nat
 |[]=>[]
 |.mu m::ss=>m::eU ss
 |_::ss=>eU ss
def Fa4 (t:Nat):Nat->List Nat->Fin->RdM Fin
 |_,[],F=>.ret F
 | j, d :: ds, F => do
  match <- rdK (kT (t+j)) with
  | some (.slot none (.one (.ex r))) => do
   match <- rdK (kR r) with
   | some (.root x m _ .live) => do
    bZ (Nat.ble d m)
    Fa4 t (j+1) ds { F with xs:=F.xs++[x],own:=F.own++[(r,2*j+1,d)] }
   |_=>.no
  |_=>.no
def sO (t:Nat):Fin->Nat->List (Bool×List (BS×BO))->RdM Fin
 |F,_,[]=>.ret F
 | F, b, (ro, cs) :: r => do
  bif ro then sO t F (b+1) r else
  match <- rdK (kT (t+b)) with
  | some (.slot none (.one (.px b' 0))) => do
   bZ (Nat.beq b' b)
   match <- rdK (kB b) with
   | some (.box false ls) => do
    let F <- kH F (cs.map (·.2)) ls
    sO t F (b+1) r
   |_=>.no
  |_=>.no
def Gbn (E:Env)(s:Sig)(results:List ResultVar)(nv:Nat):RdM Fin:=do
 let F <- rM E nv ⟨[],[],0,[],[],[]⟩ s.results results
 let ms:=eU (s.params.flatMap (·.2))
 let F <- Fa4 E.ntmps 0 ms F
 sO (E.ntmps+ms.length) F 0 s.boxes
def finish (E:Env)(s:Sig)(results:List ResultVar)(st:St):Option (Tm St) :=
 match (Gbn E s results st.nv).eval st.get with
 | some F =>
  bif distinct (F.own.map (·.1))&&!(meets (F.own.map (·.1)) F.frz)&&!(F.bxs.any fun b=>Sb0 b s.boxes.length)&&fG st.nv F.lets then
   some (qN none (.leaf .ret F.xs st) F.lets) else none
 |none=>none
def Fb9 (E:Env)(pL:Bool)(s:Sig)(body:Code)(live:Nat):Option (Tm St) :=
 let e:=entry s E.ntmps
 bif Ga5 e e.nr ((range 0 e.nt).map kT++(range 0 e.nb).map kB++(range 0 e.nr).map kR) then sxC E pL live body [] live e else lM 7
def Hbw (l:List ResultVar):Nat:=l.foldl (fun m r=>match r with|.tmp t=>m ||| 2 ^ t|.cell t _=>m ||| 2 ^ t) 0
def Pb5:Kind->Bool
 |.ret=>true
 |.fall=>true
 |_=>false
def Vai (E:Env)(s:Sig)(fn:Func):Option (Tm Unit) :=
 match fn.body with
 |none=>none
 | some c => bif !(Nat.ble s.params.length fn.ntmps) then none else do
  let E:={ E with ntmps:=fn.ntmps,ngh:=oZ s,nbx:=s.boxes.length }
  let t <- Fb9 E false s c (Hbw fn.results.toList)
  let t <- t.turn .ret Pb5 fun st=>(match finish E s fn.results.toList st with|some t=>some t|none=>some .stuck)
  some t.strip
inductive Sc:Value->D->Prop
 |int (k:IntKind) (n:Int):Sc (.int k n) (.int k n)
 |bool (b:Bool):Sc (.bool b) (.bool b)
 |str (l:List UInt8):Sc (.string ⟨l.toArray⟩) (.str l)
inductive Rd (ok:Nat->Prop) (w:World):Value->D->Prop
 |sc {v:Value} {d:D} (h:Sc v d):Rd ok w v d
 |hole (v:Value) (h1:v.oneCell'=true):Rd ok w v .hole
 | rows (A : Option Addr) (a : Addr) (n c sz : Nat) (rs : List (List D)) (vs : Nat -> Nat -> Value)
   (hn:rs.length=n) (hc:n<=c) (hA:n=0\/A=some a) (ej:∀ r∈rs,r.length=sz)
   (cV:∀ i r,rs[i]?=some r->∀ j d,r[j]?=some d->ok a.block/\w.cell? (a.add (i*sz+j))=some (vs i j))
   (dq:∀ i r,rs[i]?=some r->∀ j d,r[j]?=some d->Rd ok w (vs i j) d) :
   Rd ok w (.slice A n c) (.rows sz rs)
inductive Ow where
 |frz
 |slc (r:Nat) (p:List Nat)
 |box (b:Nat)
 |oth
 deriving DecidableEq
def fzq (w:World)(a:Addr):Bool :=
 match w.heap[a.block]? with
 |some (.cells _ _ (lo,hi))=>decide (lo<hi)
 |_=>false
theorem pE {w:World}{a:Addr}(h:fzq w a=false){b:Addr}(hb:b.block=a.block):w.frozen? b=false:=by
 unfold fzq at h;unfold World.frozen?;rw[hb];split at h
 ·rename_i lo hi he
  rw[he];have:=of_decide_eq_false h;simp only[Bool.and_eq_false_iff,decide_eq_false_iff_not];omega
 ·rename_i dz
  split
  ·rename_i lo hi he
   exact absurd he (dz _ _ _ _)
  ·rfl
inductive Rp (own:Nat->Ow) (w:World) (r:Nat):List Nat->Nat->Value->D->Prop
 |sc {p:List Nat} {m:Nat} {v:Value} {d:D} (h:Sc v d):Rp own w r p m v d
 |hole {p:List Nat} {m:Nat} (v:Value) (h1:v.oneCell'=true):Rp own w r p m v .hole
 |fz {p:List Nat} {v:Value} {d:D} (h:Rd (fun b=>own b=.frz) w v d):Rp own w r p 0 v d
 | sl {p : List Nat} {m : Nat} (A : Option Addr) (a : Addr) (n c sz : Nat) (rs : List (List D)) (vs : Nat -> Nat -> Value)
   (hn:rs.length=n) (hc:n<=c) (hA:A=some a\/(A=none/\c=0)) (ej:∀ r∈rs,r.length=sz)
   (cI:A=some a->a.spot=none/\own a.block=.slc r p/\∀ k,k<c*sz->∃ u,w.cell? (a.add k)=some u/\fzq w (a.add k)=false)
   (cV:∀ i row,rs[i]?=some row->∀ j d,row[j]?=some d->w.cell? (a.add (i*sz+j))=some (vs i j))
   (dq:∀ i row,rs[i]?=some row->∀ j d,row[j]?=some d->Rp own w r (p++[i*sz+j]) m (vs i j) d) :
   Rp own w r p (m+1) (.slice A n c) (.rows sz rs)
def Aaf (own:Nat->Ow)(w:World)(r:Nat):List Nat->Value->List Nat->Value->Prop
 |_,v,[],u=>u=v
 |q,v,k::p,u=>∃ a n c u',v=.slice (some a) n c/\own a.block=.slc r q/\w.cell? (a.add k)=some u'/\Aaf own w r (q++[k]) u' p u
theorem iD {w w':World}{a:Addr}(h:w'.heap[a.block]?=w.heap[a.block]?):w'.cell? a=w.cell? a:=by
 unfold World.cell?;rw[h]
theorem Iag {w w':World}{a:Addr}(h:w'.heap[a.block]?=w.heap[a.block]?):w'.frozen? a=w.frozen? a:=by
 unfold World.frozen?;rw[h]
theorem Ca9 {w w':World}{a:Addr}(h:w'.heap[a.block]?=w.heap[a.block]?):fzq w' a=fzq w a:=by
 unfold fzq;rw[h]
theorem add_block (a:Addr)(k:Nat):(a.add k).block=a.block:=by unfold Addr.add;split<;>rfl
theorem add_add (a:Addr)(j k:Nat):(a.add j).add k=a.add (j+k):=by
 unfold Addr.add;by_cases hj:j=0<;>by_cases hk:k=0<;>simp_all<;>omega
theorem Rd.mono {ok ok':Nat->Prop}{w w':World}{v:Value}{d:D}(h:Rd ok w v d)
  (hf:∀ b,ok b->ok' b/\w'.heap[b]?=w.heap[b]?):Rd ok' w' v d:=by
 induction h with
 |sc h=>exact .sc h
 |hole v h1=>exact .hole v h1
 | rows A a n c sz rs vs hn hc hA ej cV dq ih =>
  refine .rows A a n c sz rs vs hn hc hA ej (fun i r hi j d hj=>?_) (fun i r hi j d hj=>ih i r hi j d hj);obtain⟨h1,h2⟩:=cV i r hi j d hj;obtain⟨h3,h4⟩:=hf _ h1;exact⟨h3,(iD (w:=w) (w':=w') (by rw[add_block];exact h4)).trans h2⟩
theorem Rp.mono {own own':Nat->Ow}{w w':World}{r r':Nat}{q q':List Nat}{p:List Nat}{m:Nat}{v:Value}{d:D}(h:Rp own w r p m v d)
  (hz:∀ b,own b=.frz->own' b=.frz/\w'.heap[b]?=w.heap[b]?) :
  ∀ s,p=q++s->(∀ b t,own b=.slc r (q++t)->own' b=.slc r' (q'++t)/\w'.heap[b]?=w.heap[b]?)->Rp own' w' r' (q'++s) m v d:=by
 induction h with
 |sc h=>exact fun _ _ _=>.sc h
 |hole v h1=>exact fun _ _ _=>.hole v h1
 |fz h=>exact fun _ _ _=>.fz (h.mono hz)
 | sl A a n c sz rs vs hn hc hA ej cI cV dq ih =>
  rename_i p m;intro s hp hs;refine .sl A a n c sz rs vs hn hc hA ej (fun e=>?_) (fun i row hi j d hj=>?_) (fun i row hi j d hj=>?_)
  ·obtain⟨h1,h2,h3⟩:=cI e
   rw[hp]at h2;obtain⟨h4,h5⟩:=hs _ _ h2;refine⟨h1,h4,fun k hk=>?_⟩;obtain⟨u,hu,hf⟩:=h3 k hk;exact⟨u,(iD (w:=w) (w':=w') (by rw[add_block];exact h5)).trans hu,(Ca9 (w:=w) (w':=w') (by rw[add_block];exact h5)).trans hf⟩
  ·rcases hA with e|⟨e,e'⟩
   ·obtain⟨h1,h2,h3⟩:=cI e
    rw[hp]at h2;obtain⟨h4,h5⟩:=hs _ _ h2;exact (iD (w:=w) (w':=w') (by rw[add_block];exact h5)).trans (cV i row hi j d hj)
   ·exfalso
    have:i<rs.length:=by
     rcases Rbu i rs.length with h|h
     ·exact h
     ·simp[Tbl h]at hi
    omega
  ·have:=ih i row hi j d hj (s++[i*sz+j]) (by rw[hp,Rbd]) hs
   rwa[<- Rbd]at this
theorem Rp.rd {own:Nat->Ow}{w:World}{r:Nat}{p:List Nat}{m:Nat}{v:Value}{d:D}(h:Rp own w r p m v d) :
  Rd (fun b=>own b=.frz\/∃ q,own b=.slc r q) w v d:=by
 induction h with
 |sc h=>exact .sc h
 |hole v h1=>exact .hole v h1
 |fz h=>exact h.mono fun b hb=>⟨.inl hb,rfl⟩
 | sl A a n c sz rs vs hn hc hA ej cI cV dq ih =>
  refine .rows A a n c sz rs vs hn hc ?_ ej (fun i row hi j d hj=>?_) ih
  ·rcases hA with e|⟨e,e'⟩
   ·exact .inr e
   ·exact .inl (by omega)
  ·refine⟨?_,cV i row hi j d hj⟩
   rcases hA with e|⟨e,e'⟩
   ·exact .inr ⟨_,(cI e).2.1⟩
   ·exfalso
    have:i<rs.length:=by
     rcases Rbu i rs.length with h|h
     ·exact h
     ·simp[Tbl h]at hi
    omega
theorem Rp.weaken {own own':Nat->Ow}{w:World}{r:Nat}{p:List Nat}{m:Nat}{v:Value}{d:D}(h:Rp own w r p m v d)
  (hz:∀ b,own b=.frz->own' b=.frz):∀ (m':Nat),m'<=m ->
  (∀ b t,own b=.slc r (p++t)->own' b=(if t.length<m' then .slc r (p++t) else .frz))->Rp own' w r p m' v d:=by
 induction h with
 |sc h=>exact fun _ _ _=>.sc h
 |hole v h1=>exact fun _ _ _=>.hole v h1
 | fz h =>
  intro m' hm hs;obtain rfl:m'=0:=by omega
  exact .fz (h.mono fun b hb=>⟨hz b hb,rfl⟩)
 | sl A a n c sz rs vs hn hc hA ej cI cV dq ih =>
  rename_i p m;intro m' hm hs
  cases m' with
  | zero =>
   refine .fz (.rows A a n c sz rs vs hn hc ?_ ej (fun i row hi j d hj=>?_) (fun i row hi j d hj=>?_))
   ·rcases hA with e|⟨e,e'⟩
    ·exact .inr e
    ·exact .inl (by omega)
   ·refine⟨?_,cV i row hi j d hj⟩
    rcases hA with e|⟨e,e'⟩
    ·have:=hs a.block [] (by simpa using (cI e).2.1)
     simpa using this
    ·exfalso
     have:i<rs.length:=by
      rcases Rbu i rs.length with h|h
      ·exact h
      ·simp[Tbl h]at hi
     omega
   ·have h1:=ih i row hi j d hj 0 (Nat.zero_le _) (fun b t hb=>by
     have:=hs b ([i*sz+j]++t) (by rw[<- Rbd];exact hb);simpa using this)
    generalize vs i j=u at h1
    cases h1 with
    |sc h=>exact .sc h
    |hole _ h1=>exact .hole _ h1
    |fz h=>exact h
  | succ m' =>
   refine .sl A a n c sz rs vs hn hc hA ej (fun e=>?_) cV (fun i row hi j d hj=>?_)
   ·obtain⟨h1,h2,h3⟩:=cI e
    refine⟨h1,?_,h3⟩;have:=hs a.block [] (by simpa using h2);simpa using this
   ·refine ih i row hi j d hj m' (by omega) (fun b t hb=>?_)
    have:=hs b ([i*sz+j]++t) (by rw[<- Rbd];exact hb);simp only[List.length_append,List.length_singleton]at this;rw[this,<- Rbd];by_cases ht:t.length<m'
    ·rw[if_pos ht,if_pos (by omega)]
    ·rw[if_neg ht,if_neg (by omega)]
theorem Sc.one {v:Value}{d:D}(h:Sc v d):v.oneCell'=true:=by cases h<;>rfl
theorem Rd.one {ok:Nat->Prop}{w:World}{v:Value}{d:D}(h:Rd ok w v d):v.oneCell'=true:=by
 cases h with
 |sc h=>exact h.one
 |hole _ h1=>exact h1
 |rows=>rfl
theorem Rp.one {own:Nat->Ow}{w:World}{r:Nat}{p:List Nat}{m:Nat}{v:Value}{d:D}(h:Rp own w r p m v d):v.oneCell'=true:=by
 cases h with
 |sc h=>exact h.one
 |hole _ h1=>exact h1
 |fz h=>exact h.one
 |sl=>rfl
structure Gh where
 own:Nat->Ow
 hdr:Nat->Value
 bx:Nat->Addr
def nK (σ:Nat->Option aU)(r k:Nat):Prop:=∃ x m st,σ (kR r)=some (.root x m k st)/\(st=.live\/st=.frozen)
def Aac (σ:Nat->Option aU)(r k m:Nat):Prop:=∃ x,σ (kR r)=some (.root x m k .live)
def kF (σ:Nat->Option aU)(r k:Nat):Prop:=∃ x m cQ st,σ (kR r)=some (.root x m cQ st)/\(st=.live\/st=.frozen->k<=cQ)
def allow (G:Gh)(deps:List (Nat×Nat))(b:Nat):Prop:=G.own b=.frz\/∃ r k p,(r,k)∈deps/\G.own b=.slc r p
def mO (ρ:List D)(x:aP):Nat:=match x.val ρ with
 |.int _ n=>n.toNat
 |_=>0
def bG (ρ:List D)(p:List (aP×Nat×Nat)):List Nat:=p.map fun x=>mO ρ x.1*x.2.1+x.2.2
def Gbx (h v:Value)(sz L:Nat):Prop:=∃ A n c,h=.slice A n c/\L<=n/\v=.slice (if c=L then A else A.map (·.add (L*sz))) (n-L) (c-L)
def Da0 (σ:Nat->Option aU)(ρ:List D)(G:Gh)(w:World)(deps:List (Nat×Nat))(v:Value)(d:D):Pth->Prop
 |.no=>True
 |.view=>∀ r k m,deps=[(r,k)]->Aac σ r k m->Rp G.own w r [] m v d
 |.suf sz lo=>∀ r k m,deps=[(r,k)]->Aac σ r k m->Gbx (G.hdr r) v sz (mO ρ lo)
 |.path p=>∀ r k m,deps=[(r,k)]->Aac σ r k m->p.length<=m/\Rp G.own w r (bG ρ p) (m-p.length) v d/\Aaf G.own w r [] (G.hdr r) (bG ρ p) v
mutual
def aD (σ:Nat->Option aU)(ρ:List D)(G:Gh)(w:World):aT->Value->Prop
 |.dead,v=>v.oneCell'=true
 |.sc x,v=>Sc v (x.val ρ)
 |.su g x,v=>(Sc v (x.val ρ)\/(v=undef/\x.val ρ=.undef))/\(gOn ρ (some g)=true->Sc v (x.val ρ))
 |.ex r,v=>v=G.hdr r/\(σ (kR r)).isSome/\v.oneCell'=true
 | .sn deps p nie x, v => (v.oneCell' = true /\ ∀ z ∈ deps, kF σ z.1 z.2) /\ ((∀ z ∈ deps, nK σ z.1 z.2) ->
   Rd (allow G deps) w v (x.val ρ)/\(nie=true->∀ z,x.val ρ=.rows z []->v=.slice none 0 0)/\Da0 σ ρ G w deps v (x.val ρ) p)
 |.px b off,v=>v=.pointer (some ((G.bx b).add off))/\(σ (kB b)).isSome
 |.pe l sz i off,v=>∃ a n c k iv,aD σ ρ G w l (.slice (some a) n c)/\i.val ρ=.int k iv/\0<=iv/\iv.toNat<n/\v=.pointer (some (a.add (iv.toNat*sz+off)))
 | .rp deps sz x, v => (v.oneCell' = true /\ ∀ z ∈ deps, kF σ z.1 z.2) /\ ((∀ z ∈ deps, nK σ z.1 z.2) ->
   (v=.pointer none/\∃ z,x.val ρ=.rows z []) \/
   ∃ a row,v=.pointer (some a)/\x.val ρ=.rows row.length [row]/\Rd (allow G deps) w (.slice (some a) 1 1) (.rows row.length [row]))
 |.pn,v=>v=.pointer none
 |.clo f gi,v=>∃ vs,v=.func (.func f) #[] vs.toArray/\aH σ ρ G w gi vs
def aH (σ:Nat->Option aU)(ρ:List D)(G:Gh)(w:World):List aT->List Value->Prop
 |[],vs=>vs=[]
 |l::ls,vs=>∃ u us,vs=u::us/\aD σ ρ G w l u/\aH σ ρ G w ls us
end
def jG (σ:Nat->Option aU)(ρ:List D)(G:Gh)(w:World):List (Bool×List aT)->List Value->Prop
 |[],us=>us=[]
 |(a,ls)::r,us=>∃ u eE vs,us=u::eE/\aH σ ρ G w ls vs/\(if a=true then u=.agg vs.toArray else vs=[u])/\jG σ ρ G w r eE
def dI (σ:Nat->Option aU)(ρ:List D)(G:Gh)(w:World):SV->Value->Prop
 |.dead,_=>True
 |.one l,v=>aD σ ρ G w l v
 |.agg ls,v=>∃ vs,v=.agg vs.toArray/\aH σ ρ G w ls vs
 |.tup ts,v=>∃ us,v=.tuple us.toArray/\jG σ ρ G w ts us
def Bap (n:Nat)(a:Act)(gh:Nat->Value)(t:Nat):Value:=if t<n then a.tmps.getD t undef else gh (t-n)
def dB (σ:Nat->Option aU)(ρ:List D)(G:Gh)(w:World)(r:Nat)(x:aP)(m:Nat):RSt->Prop
 |.live=>Rp G.own w r [] m (G.hdr r) (x.val ρ)
 |.frozen=>Rd (fun b=>G.own b=.frz) w (G.hdr r) (x.val ρ)/\∀ b p,G.own b≠.slc r p
 |.gone=>True
 |.fwd r'=>G.hdr r=G.hdr r'/\(σ (kR r')).isSome
def Lac (σ:Nat->Option aU)(ρ:List D)(G:Gh)(w:World)(b:Nat)(ro:Bool)(ls:List aT):Prop :=
 (G.bx b).spot=none/\G.own (G.bx b).block=(if ro=true then .oth else .box b) /\
 ∀ j l,ls[j]?=some l->∃ v,w.cell? ((G.bx b).add j)=some v/\w.frozen? ((G.bx b).add j)=false/\aD σ ρ G w l v
structure bQ where
 w0:World
 own0:Nat->Ow
 gh:Nat->Value
 rng:Nat->Nat×Nat
structure nX (F:bQ) (G:Gh) (w:World):Prop where
 os:w.os=F.w0.os
 tape:w.tape=F.w0.tape
 output:w.output=F.w0.output
 size:F.w0.heap.size<=w.heap.size
 keep:∀ b,b<F.w0.heap.size->F.own0 b=.frz\/F.own0 b=.oth->w.heap[b]?=F.w0.heap[b]?/\G.own b=F.own0 b
 boxes:∀ b j,b<F.w0.heap.size->F.own0 b=.box j->G.own b=.box j/\∃ c0 c1 e fr,F.w0.heap[b]?=some (.cells c0 e fr)/\w.heap[b]?=some (.cells c1 e fr)/\c1.size=c0.size /\
  ∀ k,k<(F.rng j).1\/(F.rng j).2<=k->c1[k]?=c0[k]?
 fresh:∀ b,w.heap.size<=b->G.own b=.frz
def Bbn (n:Nat)(gh:Nat->Value)(σ:Nat->Option aU)(ρ:List D)(G:Gh)(a:Act)(w:World):Nat->aU->Prop
 |k,.slot g v=>∃ t,k=kT t/\(gOn ρ g=true->dI σ ρ G w v (Bap n a gh t))
 |k,.box ro ls=>∃ b,k=kB b/\Lac σ ρ G w b ro ls
 |k,.root x m cQ st=>∃ r,k=kR r/\(σ (kR r)).isSome/\dB σ ρ G w r x m st
structure R (n:Nat) (F:bQ) (σ:Nat->Option aU) (ρ:List D) (a:Act) (w:World) (G:Gh):Prop where
 tmps:a.tmps.size=n
 defers:a.defers=[]
 cont:∀ k c,σ k=some c->Bbn n F.gh σ ρ G a w k c
 frame:nX F G w
 rng:∀ b ls,σ (kB b)=some (.box false ls)->(G.bx b).block<F.w0.heap.size->F.own0 (G.bx b).block=.box b->F.rng b=((G.bx b).off,(G.bx b).off+ls.length)
theorem Mbr {a b:Nat}(h:kT a=kT b):a=b:=by unfold kT at h;omega
theorem Ca6 {a b:Nat}(h:kB a=kB b):a=b:=by unfold kB at h;omega
theorem fT {a b:Nat}(h:kR a=kR b):a=b:=by unfold kR at h;omega
theorem nC {a b:Nat}:kT a≠kB b:=by unfold kT kB;omega
theorem jL {a b:Nat}:kT a≠kR b:=by unfold kT kR;omega
theorem gB {a b:Nat}:kB a≠kR b:=by unfold kB kR;omega
section
variable {n:Nat} {F:bQ} {σ:Nat->Option aU} {ρ:List D} {a:Act} {w:World} {G:Gh}
theorem R.slot (h:R n F σ ρ a w G){t:Nat}{g:Option (aP×Bool)}{v:SV}(hk:σ (kT t)=some (.slot g v))(hg:gOn ρ g=true):dI σ ρ G w v (Bap n a F.gh t):=by
 obtain⟨t',e,h'⟩:=h.cont _ _ hk;obtain rfl:=Mbr e;exact h' hg
theorem R.box (h:R n F σ ρ a w G){b:Nat}{ro:Bool}{ls:List aT}(hk:σ (kB b)=some (.box ro ls)):Lac σ ρ G w b ro ls:=by
 obtain⟨t',e,h'⟩:=h.cont _ _ hk;obtain rfl:=Ca6 e;exact h'
theorem R.root (h:R n F σ ρ a w G){r:Nat}{x:aP}{m cQ:Nat}{st:RSt}(hk:σ (kR r)=some (.root x m cQ st)):dB σ ρ G w r x m st:=by
 obtain⟨t',e,_,h'⟩:=h.cont _ _ hk;obtain rfl:=fT e;exact h'
end
structure Fr (σ:Nat->Option aU) (G:Gh) (w:World) (fj:Nat->Option aU) (G':Gh) (w':World):Prop where
 frz:∀ b,G.own b=.frz->b<w.heap.size->G'.own b=.frz/\w'.heap[b]?=w.heap[b]?
 valid:∀ r k,kF σ r k->nK fj r k->nK σ r k
 known:∀ r k,kF σ r k->kF fj r k
 slc:∀ r k b p,nK σ r k->nK fj r k->G.own b=.slc r p->(G'.own b=.slc r p\/G'.own b=.frz)/\w'.heap[b]?=w.heap[b]?
 live:∀ r k m,kF σ r k->Aac fj r k m->Aac σ r k m/\∀ b p,G.own b=.slc r p->G'.own b=.slc r p
 hdr:∀ r,(σ (kR r)).isSome->G'.hdr r=G.hdr r
 bx:∀ b,(σ (kB b)).isSome->G'.bx b=G.bx b
 keep:∀ k,(σ k).isSome->(fj k).isSome
 froz:∀ r x m k,σ (kR r)=some (.root x m k .frozen)->∀ b p,G'.own b=.slc r p->G.own b=.slc r p
theorem kF.some {σ:Nat->Option aU}{r k:Nat}(h:kF σ r k):(σ (kR r)).isSome:=by
 obtain⟨x,m,cQ,st,e,_⟩:=h;rw[e];rfl
theorem nK.known {σ:Nat->Option aU}{r k:Nat}(h:nK σ r k):kF σ r k:=by
 obtain⟨x,m,st,e,_⟩:=h;exact⟨x,m,k,st,e,fun _=>Nat.le_refl _⟩
theorem kF.same {σ fj:Nat->Option aU}(h:∀ r,fj (kR r)=σ (kR r)){r k:Nat}(hk:kF σ r k):kF fj r k:=by
 obtain⟨x,m,cQ,st,e,h1⟩:=hk;exact⟨x,m,cQ,st,by rw[h];exact e,h1⟩
theorem Aac.valid {σ:Nat->Option aU}{r k m:Nat}(h:Aac σ r k m):nK σ r k:=by
 obtain⟨x,e⟩:=h;exact⟨x,m,.live,e,.inl rfl⟩
theorem block_lt {w:World}{a:Addr}{v:Value}(h:w.cell? a=some v):a.block<w.heap.size:=by
 rcases Rbu a.block w.heap.size with h1|h1
 ·exact h1
 ·unfold World.cell? at h
  rw[Array.getElem?_eq_none h1]at h;cases h
theorem Bba {w:World}{a:Addr}{v:Value}(h:w.cell? a=some v):a.block<w.heap.size:=block_lt h
theorem Rd.mono' {ok ok':Nat->Prop}{w w':World}{v:Value}{d:D}(h:Rd ok w v d)
  (hf:∀ b,ok b->b<w.heap.size->ok' b/\w'.heap[b]?=w.heap[b]?):Rd ok' w' v d:=by
 induction h with
 |sc h=>exact .sc h
 |hole v h1=>exact .hole v h1
 | rows A a n c sz rs vs hn hc hA ej cV dq ih =>
  refine .rows A a n c sz rs vs hn hc hA ej (fun i r hi j d hj=>?_) (fun i r hi j d hj=>ih i r hi j d hj);obtain⟨h1,h2⟩:=cV i r hi j d hj;have bh:=Bba h2;rw[add_block]at bh;obtain⟨h3,h4⟩:=hf _ h1 bh;exact⟨h3,(iD (w:=w) (w':=w') (by rw[add_block];exact h4)).trans h2⟩
theorem Rp.mono' {own own':Nat->Ow}{w w':World}{r r':Nat}{q q':List Nat}{p:List Nat}{m:Nat}{v:Value}{d:D}(h:Rp own w r p m v d)
  (hz:∀ b,own b=.frz->b<w.heap.size->own' b=.frz/\w'.heap[b]?=w.heap[b]?) :
  ∀ s,p=q++s->(∀ b t,own b=.slc r (q++t)->own' b=.slc r' (q'++t)/\w'.heap[b]?=w.heap[b]?)->Rp own' w' r' (q'++s) m v d:=by
 induction h with
 |sc h=>exact fun _ _ _=>.sc h
 |hole v h1=>exact fun _ _ _=>.hole v h1
 |fz h=>exact fun _ _ _=>.fz (h.mono' hz)
 | sl A a n c sz rs vs hn hc hA ej cI cV dq ih =>
  rename_i p m;intro s hp hs;refine .sl A a n c sz rs vs hn hc hA ej (fun e=>?_) (fun i row hi j d hj=>?_) (fun i row hi j d hj=>?_)
  ·obtain⟨h1,h2,h3⟩:=cI e
   rw[hp]at h2;obtain⟨h4,h5⟩:=hs _ _ h2;refine⟨h1,h4,fun k hk=>?_⟩;obtain⟨u,hu,hf⟩:=h3 k hk;exact⟨u,(iD (w:=w) (w':=w') (by rw[add_block];exact h5)).trans hu,(Ca9 (w:=w) (w':=w') (by rw[add_block];exact h5)).trans hf⟩
  ·rcases hA with e|⟨e,e'⟩
   ·obtain⟨h1,h2,h3⟩:=cI e
    rw[hp]at h2;obtain⟨h4,h5⟩:=hs _ _ h2;exact (iD (w:=w) (w':=w') (by rw[add_block];exact h5)).trans (cV i row hi j d hj)
   ·exfalso
    have:i<rs.length:=by
     rcases Rbu i rs.length with h|h
     ·exact h
     ·simp[Tbl h]at hi
    omega
  ·have:=ih i row hi j d hj (s++[i*sz+j]) (by rw[hp,Rbd]) hs
   rwa[<- Rbd]at this
theorem Aaf.mono {own own':Nat->Ow}{w w':World}{r r':Nat}:∀ (p q q':List Nat) (v u:Value),
  (∀ b t,own b=.slc r (q++t)->own' b=.slc r' (q'++t)/\w'.heap[b]?=w.heap[b]?)->Aaf own w r q v p u->Aaf own' w' r' q' v p u
 |[],_,_,_,_,_,h=>h
 | k :: p, q, q', v, u, hs, h => by
  obtain⟨a,n,c,u',rfl,ho,hc,hn⟩:=h;obtain⟨h1,h2⟩:=hs a.block [] (by simpa using ho);refine⟨a,n,c,u',rfl,by simpa using h1,(iD (w:=w) (w':=w') (by rw[add_block];exact h2)).trans hc,?_⟩
  exact Aaf.mono p (q++[k]) (q'++[k]) u' u (fun b t hb=>by
   have:=hs b (k::t) (by simpa using hb);simpa using this) hn
section
variable {σ fj:Nat->Option aU} {ρ:List D} {G G':Gh} {w w':World}
theorem Da0.mono (h:Fr σ G w fj G' w'){deps:List (Nat×Nat)}(hex:∀ z∈deps,kF σ z.1 z.2){v:Value}{d:D}{p:Pth}(hp:Da0 σ ρ G w deps v d p):Da0 fj ρ G' w' deps v d p:=by
 cases p with
 |no=>trivial
 | view =>
  intro r k m e hl;obtain⟨fS,ho⟩:=h.live r k m (hex (r,k) (by simp[e])) hl;have:=(hp r k m e fS).mono' (q:=[]) (q':=[]) h.frz [] rfl (fun b t hb=>⟨ho b t hb,(h.slc r k b _ fS.valid hl.valid hb).2⟩);simpa using this
 | suf sz lo =>
  intro r k m e hl;obtain⟨fS,ho⟩:=h.live r k m (hex (r,k) (by simp[e])) hl;rw[h.hdr r (hex (r,k) (by simp[e])).some];exact hp r k m e fS
 | path p =>
  intro r k m e hl;obtain⟨fS,ho⟩:=h.live r k m (hex (r,k) (by simp[e])) hl;obtain⟨h1,h2,h3⟩:=hp r k m e fS;have hs:∀ b t,G.own b=.slc r ([]++t)->G'.own b=.slc r ([]++t)/\w'.heap[b]?=w.heap[b]?:=fun b t hb=>⟨ho b t hb,(h.slc r k b _ fS.valid hl.valid hb).2⟩
  refine⟨h1,?_,?_⟩
  ·have:=h2.mono' (q:=[]) (q':=[]) h.frz _ rfl hs
   rw[List.nil_append]at this;exact this
  ·rw[h.hdr r (hex (r,k) (by simp[e])).some]
   exact h3.mono _ _ _ _ _ hs
theorem allow.mono (h:Fr σ G w fj G' w'){deps:List (Nat×Nat)}(hex:∀ z∈deps,kF σ z.1 z.2)(hv:∀ z∈deps,nK fj z.1 z.2){b:Nat}(hb:allow G deps b)(bh:b<w.heap.size) :
  allow G' deps b/\w'.heap[b]?=w.heap[b]?:=by
 rcases hb with hb|⟨r,k,p,hm,hb⟩
 ·exact⟨.inl (h.frz b hb bh).1,(h.frz b hb bh).2⟩
 ·have hv':=hv (r,k) hm
  have:=h.slc r k b p (h.valid r k (hex (r,k) hm) hv') hv' hb;exact⟨this.1.elim (fun e=>.inr ⟨r,k,p,hm,e⟩) .inl,this.2⟩
mutual
theorem aD.mono (h:Fr σ G w fj G' w'):∀ (l:aT) (v:Value),aD σ ρ G w l v->aD fj ρ G' w' l v
 |.dead,_,hl=>by simpa[aD] using hl
 |.sc x,v,hl=>by simpa[aD] using hl
 |.su g x,v,hl=>by simpa[aD] using hl
 | .ex r, v, hl => by
  simp only[aD]at hl ⊢;exact⟨by rw[h.hdr r hl.2.1];exact hl.1,h.keep _ hl.2.1,hl.2.2⟩
 | .sn deps p nie x, v, hl => by
  simp only[aD]at hl ⊢;refine⟨⟨hl.1.1,fun z hz=>h.known _ _ (hl.1.2 z hz)⟩,fun hv=>?_⟩;obtain⟨h1,h2,h3⟩:=hl.2 (fun z hz=>h.valid _ _ (hl.1.2 z hz) (hv z hz));exact⟨h1.mono' fun b hb bh=>allow.mono h hl.1.2 hv hb bh,h2,h3.mono h hl.1.2⟩
 | .px b off, v, hl => by
  simp only[aD]at hl ⊢;exact⟨by rw[h.bx b hl.2];exact hl.1,h.keep _ hl.2⟩
 | .pe l sz i off, v, hl => by
  simp only[aD]at hl ⊢;obtain⟨a,n,c,k,iv,h1,h2⟩:=hl;exact⟨a,n,c,k,iv,aD.mono h l _ h1,h2⟩
 | .rp deps sz x, v, hl => by
  simp only[aD]at hl ⊢;refine⟨⟨hl.1.1,fun z hz=>h.known _ _ (hl.1.2 z hz)⟩,fun hv=>?_⟩
  rcases hl.2 (fun z hz=>h.valid _ _ (hl.1.2 z hz) (hv z hz)) with h1|⟨a,row,h1,h2,h3⟩
  ·exact .inl h1
  ·exact .inr ⟨a,row,h1,h2,h3.mono' fun b hb bh=>allow.mono h hl.1.2 hv hb bh⟩
 |.pn,v,hl=>by simpa[aD] using hl
 | .clo f gi, v, hl => by
  simp only[aD]at hl ⊢;obtain⟨vs,h1,h2⟩:=hl;exact⟨vs,h1,aH.mono h gi vs h2⟩
theorem aH.mono (h:Fr σ G w fj G' w'):∀ (ls:List aT) (vs:List Value),aH σ ρ G w ls vs->aH fj ρ G' w' ls vs
 |[],vs,hl=>by simpa[aH] using hl
 | l :: ls, vs, hl => by
  simp only[aH]at hl ⊢;obtain⟨u,us,e,h1,h2⟩:=hl;exact⟨u,us,e,aD.mono h l u h1,aH.mono h ls us h2⟩
end
theorem jG.mono (h:Fr σ G w fj G' w'):∀ (ts:List (Bool×List aT)) (us:List Value),jG σ ρ G w ts us->jG fj ρ G' w' ts us
 |[],_,ht=>ht
 | (a, ls) :: r, us, ht => by
  obtain⟨u,eE,vs,e,h1,h2,h3⟩:=ht;exact⟨u,eE,vs,e,aH.mono h ls vs h1,h2,jG.mono h r eE h3⟩
theorem dI.mono (h:Fr σ G w fj G' w'){v:SV}{u:Value}(hv:dI σ ρ G w v u):dI fj ρ G' w' v u:=by
 cases v with
 |dead=>trivial
 |one l=>exact aD.mono h l u hv
 |agg ls=>obtain⟨vs,e,h1⟩:=hv;exact⟨vs,e,aH.mono h ls vs h1⟩
 |tup ts=>obtain⟨us,e,h1⟩:=hv;exact⟨us,e,jG.mono h ts us h1⟩
end
def Ta1 (σ:Nat->Option aU)(k:Nat)(c:aU):Nat->Option aU:=fun j=>if j=k then some c else σ j
def upds (σ:Nat->Option aU):List (Nat×aU)->Nat->Option aU
 |[]=>σ
 |(k,c)::r=>upds (Ta1 σ k c) r
theorem sD:∀ (u:List (Nat×aU)) (σ:Nat->Option aU) (k:Nat) (c:aU),upds σ u k=some c->(k,c)∈u\/((∀ c',(k,c')∉u)/\σ k=some c)
 |[],σ,k,c,h=>.inr ⟨by simp,h⟩
 | (k', c') :: r, σ, k, c, h => by
  rcases sD r (Ta1 σ k' c') k c h with h1|⟨h1,h2⟩
  ·exact .inl (Rbl _ h1)
  ·unfold Ta1 at h2
   split at h2
   ·rename_i e
    obtain rfl:=Option.some.inj h2;exact .inl (by rw[e];exact Rbr)
   ·rename_i e
    refine .inr ⟨fun c'' hc=>?_,h2⟩
    rcases Rbg.1 hc with h3|h3
    ·exact e (Tbw h3).1
    ·exact h1 _ h3
theorem fP:∀ (u:List (Nat×aU)) (σ:Nat->Option aU) (k:Nat),(∀ c,(k,c)∉u)->upds σ u k=σ k
 |[],_,_,_=>rfl
 | (k', c') :: r, σ, k, h => by
  rw[upds,fP r _ k fun c hc=>h c (Rbl _ hc)];unfold Ta1;rw[if_neg];intro e;exact h c' (by rw[e];exact Rbr)
theorem eZ:∀ (u:List (Nat×aU)) (σ:Nat->Option aU) (k:Nat),(σ k).isSome\/(∃ c,(k,c)∈u)->(upds σ u k).isSome
 | [], σ, k, h => by
  rcases h with h|⟨c,hc⟩
  ·exact h
  ·simp at hc
 | (k', c') :: r, σ, k, h => by
  refine eZ r _ k ?_;unfold Ta1
  rcases h with h|⟨c,hc⟩
  ·exact .inl (by split<;>simp_all)
  ·rcases Rbg.1 hc with h1|h1
   ·exact .inl (by rw[if_pos (Tbw h1).1];rfl)
   ·exact .inr ⟨c,h1⟩
section
variable {n:Nat} {F:bQ} {σ:Nat->Option aU} {ρ:List D} {a a':Act} {w w':World} {G G':Gh}
theorem R.upd (h:R n F σ ρ a w G)(u:List (Nat×aU))(fq:Fr σ G w (upds σ u) G' w')(ej:a'.tmps.size=n)(hd:a'.defers=[])
  (hF:nX F G' w')
  (htm:∀ t,(∀ c,(kT t,c)∉u)->Bap n a' F.gh t=Bap n a F.gh t)
  (gz:∀ b ro ls,σ (kB b)=some (.box ro ls)->(∀ c,(kB b,c)∉u)->G'.own (G.bx b).block=G.own (G.bx b).block/\w'.heap[(G.bx b).block]?=w.heap[(G.bx b).block]?)
  (vf:∀ b ls,(kB b,.box false ls)∈u->(G'.bx b).block<F.w0.heap.size->F.own0 (G'.bx b).block=.box b->F.rng b=((G'.bx b).off,(G'.bx b).off+ls.length))
  (ij:∀ k c,(k,c)∈u->upds σ u k=some c->Bbn n F.gh (upds σ u) ρ G' a' w' k c):R n F (upds σ u) ρ a' w' G':=by
 refine⟨ej,hd,fun k c hk=>?_,hF,fun b ls hk hb ho=>?_⟩
 ·rcases sD u σ k c hk with h1|⟨h1,h2⟩
  ·exact ij k c h1 hk
  ·cases c with
   | slot g v =>
    obtain⟨t,rfl,hv⟩:=h.cont k _ h2;refine⟨t,rfl,fun hg=>?_⟩;rw[htm t h1];exact (hv hg).mono fq
   | box ro ls =>
    obtain⟨b,rfl,h3,h4,h5⟩:=h.cont k _ h2;obtain⟨h6,h7⟩:=gz b ro ls h2 h1;have e:G'.bx b=G.bx b:=fq.bx b (by rw[h2];rfl);refine⟨b,rfl,by rw[e];exact h3,by rw[e,h6];exact h4,fun j l hj=>?_⟩;obtain⟨v,h8,h9,eo⟩:=h5 j l hj;rw[e];exact⟨v,(iD (w:=w) (w':=w') (by rw[add_block];exact h7)).trans h8,(Iag (w:=w) (w':=w') (by rw[add_block];exact h7)).trans h9,aD.mono fq l v eo⟩
   | root x m cQ st =>
    obtain⟨r,rfl,h0,h3⟩:=h.cont k _ h2;refine⟨r,rfl,fq.keep _ h0,?_⟩;have e:G'.hdr r=G.hdr r:=fq.hdr r h0
    cases st with
    | live =>
     have fS:Aac (upds σ u) r cQ m:=⟨x,hk⟩;obtain⟨hl,ho⟩:=fq.live r cQ m ⟨x,m,cQ,.live,h2,fun _=>Nat.le_refl _⟩ fS;have:=Rp.mono' (q:=[]) (q':=[]) h3 fq.frz [] rfl (fun b t hb=>⟨ho b t hb,(fq.slc r cQ b _ hl.valid fS.valid hb).2⟩);simp only[dB];rw[e];simpa using this
    | frozen =>
     simp only[dB];rw[e];exact⟨h3.1.mono' fq.frz,fun b p hb=>h3.2 b p (fq.froz r x m cQ h2 b p hb)⟩
    |gone=>trivial
    | fwd r' =>
     obtain⟨h4,h5⟩:=h3;exact⟨by rw[e,fq.hdr r' h5];exact h4,fq.keep _ h5⟩
 ·rcases sD u σ _ _ hk with h1|⟨h1,h2⟩
  ·exact vf b ls h1 hb ho
  ·have e:G'.bx b=G.bx b:=fq.bx b (by rw[h2];rfl)
   rw[e]at hb ho ⊢;exact h.rng b ls h2 hb ho
theorem Caj (a:Act)(d:Option Tmp)(v:Value):(a.put d v).tmps.size=a.tmps.size:=by
 cases d<;>simp[Act.put]
theorem put_defers (a:Act)(d:Option Tmp)(v:Value):(a.put d v).defers=a.defers:=by
 cases d<;>simp[Act.put]
theorem Ga9 (n:Nat)(a:Act)(G:Nat->Value)(d t:Nat)(v:Value)(h:d≠t):Bap n (a.put (some d) v) G t=Bap n a G t:=by
 unfold Bap;split
 ·simp[Act.put,Sbo,Array.getElem?_setIfInBounds,h]
 ·rfl
theorem qK (n:Nat)(a:Act)(G:Nat->Value)(d:Nat)(v:Value)(h:d<n)(hs:a.tmps.size=n):Bap n (a.put (some d) v) G d=v:=by
 unfold Bap;rw[if_pos h];simp[Act.put,Sbo,hs,h]
theorem Fr.same (σ:Nat->Option aU)(G:Gh)(w:World)(u:List (Nat×aU))(hu:∀ k c,(k,c)∈u->∃ t,k=kT t):Fr σ G w (upds σ u) G w:=by
 have hr:∀ r,upds σ u (kR r)=σ (kR r):=fun r=>fP _ _ _ fun c hc=>by obtain⟨t,e⟩:=hu _ _ hc;exact jL e.symm
 refine⟨fun b h _=>⟨h,rfl⟩,fun r k _ h=>?_,fun r k h=>?_,fun r k b p _ _ h=>⟨.inl h,rfl⟩,fun r k m _ h=>⟨?_,fun b p h=>h⟩,fun _ _=>rfl,fun _ _=>rfl,fun k h=>eZ _ _ _ (.inl h),fun _ _ _ _ _ _ _ h=>h⟩
 ·obtain⟨x,m,st,e,h⟩:=h
  exact⟨x,m,st,by rw[<- hr];exact e,h⟩
 ·obtain⟨x,m,cQ,st,e,h⟩:=h
  exact⟨x,m,cQ,st,by rw[hr];exact e,h⟩
 ·obtain⟨x,e⟩:=h
  exact⟨x,by rw[<- hr];exact e⟩
def eO (o:Oper)(g:Option (aP×Bool))(v:SV):List (Nat×aU):=match o.dst with|some d=>[(kT d,.slot g v)]|none=>[]
theorem R.pure (h:R n F σ ρ a w G)(o:Oper)(hd:∀ d,o.dst=some d->d<n)(g:Option (aP×Bool))(sv:SV)(v:Value)
  (hv:gOn ρ g=true->dI σ ρ G w sv v):R n F (upds σ (eO o g sv)) ρ (a.put o.dst v) w G:=by
 have fq:Fr σ G w (upds σ (eO o g sv)) G w:=Fr.same _ _ _ _ fun k c hk=>by
  unfold eO at hk;split at hk
  ·rename_i d e
   simp only[Rbb,Rbx]at hk;exact⟨d,hk.1⟩
  ·simp at hk
 refine h.upd _ fq (by rw[Caj];exact h.tmps) (by rw[put_defers];exact h.defers) h.frame (fun t ht=>?_) (fun _ _ _ _ _=>⟨rfl,rfl⟩) (fun b ls hb=>?_) (fun k c hk kd=>?_)
 ·unfold eO at ht
  cases e:o.dst with
  |none=>rfl
  | some d =>
   rw[e]at ht;exact Ga9 _ _ _ _ _ _ fun e'=>ht _ (by rw[e'];exact Rbb.2 rfl)
 ·unfold eO at hb
  split at hb
  ·simp only[Rbb,Rbx]at hb
   exact absurd hb.1.symm nC
  ·simp at hb
 ·have hk0:=hk
  unfold eO at hk
  cases e:o.dst with
  |none=>rw[e]at hk;simp at hk
  | some d =>
   rw[e]at hk;simp only[Rbb,Rbx]at hk;obtain⟨rfl,rfl⟩:=hk;refine⟨d,rfl,fun hg=>?_⟩;rw[qK _ _ _ _ _ (hd d e) h.tmps];exact (hv hg).mono fq
end
end Go.Proofs.YtgpamlpecmldfaaGreat.Rf
