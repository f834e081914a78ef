/- Terms for s6 program's functions, and nj they are right: part 1 of 10. -/
import Derived.Calls
import Derived.Laws.Sem
open Array renaming getD_eq_getD_getElem? → Ack
open List renaming append_assoc → Zbm, mem_cons_of_mem → Zbn, mem_singleton → Zbp, replicate → Zbq, mem_cons_self → Zbu, getElem?_eq_none → Ac0
open Nat renaming lt_or_ge → Zbz, blt → Acw, testBit → Bc2, le_succ → Ccj
open Option renaming bind_eq_some_iff → Zbc, bind_some → Zbj, map_some → Acm
set_option linter.unusedSimpArgs false
set_option linter.unusedVariables false
set_option linter.unnecessarySimpa false
set_option linter.unusedSectionVars false
namespace Go.Proofs.YtcbkmmhkccnamaaGreat.Rf
inductive D where
 |int (k:IntKind) (n:Int)
 |bool (b:Bool)
 |str (s:List UInt8)
 |rows (sz:Nat) (rs:List (List D))
 |undef
 |hole
 deriving Inhabited
inductive aL where
 |v (i:Nat)
 |c (d:D)
 deriving Inhabited
def aL.val (ρ:List D):aL->D
 |.v i=>ρ.getD i .undef
 |.c d=>d
def aL.ok (n:Nat):aL->Prop
 |.v i=>i<n
 |.c _=>True
theorem aL.val_append {n:Nat}{ρ gg:List D}{x:aL}(h:x.ok ρ.length):x.val (ρ++gg)=x.val ρ:=by
 cases x with
 |c d=>rfl
 | v i =>
  simp only[aL.ok]at h;simp[aL.val,List.getD_eq_getElem?_getD,List.getElem?_append_left h]
inductive aU where
 |bin (op:BinOp)
 |eqb (neg:Bool)
 |not | neg | inv
 |conv (k:IntKind)
 |len | slen
 |row (sz off:Nat) (ks:List Bool)
 |inb
 |set (sz off n:Nat)
 |app (sz bytes:Nat) (fl:Bool)
 |mk (sz n:Nat)
 |make (bytes:Nat) (zero:List D)
 |sub (sz:Nat) (fl:Bool)
 |ssub
 |pick
 |eqs (ks:List Nat)
 |min | max
 |bstr
 |sidx
 |sid
 |ne
 |emp
 |one (sz:Nat)
 |dep (m:Nat)
 |clr (sz:Nat)
 |id
 deriving Inhabited
def gX:Nat:=140737488355328
def Aat (op:BinOp)(k:IntKind)(a b:Int):Option D :=
 match op with
 |.add=>some (.int k (k.wrap (a+b)))
 |.sub=>some (.int k (k.wrap (a-b)))
 |.mul=>some (.int k (k.wrap (a*b)))
 |.quo=>if b=0 then none else some (.int k (k.wrap (a.tdiv b)))
 |.rem=>if b=0 then none else some (.int k (a.tmod b))
 |.and=>some (.int k (k.wrap (BitVec.ofInt k.bits a &&& BitVec.ofInt k.bits b).toNat))
 |.or=>some (.int k (k.wrap (BitVec.ofInt k.bits a ||| BitVec.ofInt k.bits b).toNat))
 |.xor=>some (.int k (k.wrap (BitVec.ofInt k.bits a ^^^ BitVec.ofInt k.bits b).toNat))
 |.andNot=>some (.int k (k.wrap (BitVec.ofInt k.bits a &&& ~~~ (BitVec.ofInt k.bits b)).toNat))
 |.eql=>some (.bool (a==b))
 |.neq=>some (.bool (a != b))
 |.lss=>some (.bool (a<b))
 |.leq=>some (.bool (a<=b))
 |.gtr=>some (.bool (a>b))
 |.geq=>some (.bool (a ≥ b))
 |_=>none
def Zag (op:BinOp)(k:IntKind)(a b:Int):Option D :=
 if b<0 then none else
 match op with
 |.shl=>some (.int k (k.wrap (a*2 ^ (min b.toNat k.bits))))
 |.shr=>some (.int k (a.fdiv (2 ^ (min b.toNat k.bits))))
 |_=>none
def Lbk (op:BinOp)(a b:List UInt8):Option D :=
 match op with
 |.add=>if a.length+b.length<=4611686018427387904 then some (.str (a++b)) else none
 |.eql=>some (.bool (a==b))
 |.neq=>some (.bool (!(a==b)))
 |.lss=>some (.bool (Op.bytesLess a b))
 |.leq=>some (.bool (Op.bytesLess a b||a==b))
 |.gtr=>some (.bool (!(Op.bytesLess a b||a==b)))
 |.geq=>some (.bool (!(Op.bytesLess a b)))
 |_=>none
def Oat (op:BinOp):D->D->Option D
 | .int k a, .int k' b =>
  match op with
  |.shl | .shr=>Zag op k a b
  |_=>if k=k' then Aat op k a b else none
 |.str a,.str b=>Lbk op a b
 |_,_=>none
def eqD:Nat->D->D->Option Bool
 |0,.int k a,.int k' b=>if k=k' then some (a==b) else none
 |1,.bool a,.bool b=>some (a==b)
 |2,.str a,.str b=>some (a==b)
 |_,_,_=>none
def Ra6:List Nat->List D->List D->Option Bool
 |[],[],[]=>some true
 |k::ks,a::as,b::bs=>(eqD k a b).bind fun x=>if x then Ra6 ks as bs else some false
 |_,_,_=>none
def chunk (sz:Nat):Nat->List D->List (List D)
 |0,_=>[]
 |n+1,l=>l.take sz::chunk sz n (l.drop sz)
def bytesOf:List (List D)->Option (List UInt8)
 |[]=>some []
 |[.int .u8 n]::r=>(bytesOf r).map fun l=>UInt8.ofNat n.toNat::l
 |_=>none
def Oba (op:BinOp):D->D->Option D
 |.int k a,.int k' b=>if k=k' then some (.int k (if (match op with | .lss=>b<a | _=>b>a:Bool) then b else a)) else none
 |_,_=>none
def Na1 (op:BinOp):D->List D->Option D
 |x,[]=>some x
 |x,y::r=>(Oba op x y).bind fun z=>Na1 op z r
def D.isSc:D->Bool
 |.int _ _=>true
 |.bool _=>true
 |.str _=>true
 |_=>false
def oZ:Nat->D->Bool
 |_,.hole=>true
 |0,d=>d.isSc
 |m+1,.rows _ rs=>rs.all fun r=>r.all fun d=>oZ m d
 |_+1,d=>d.isSc
def Eac:List Bool->List D->Bool
 |[],_=>true
 |k::ks,d::ds=>(!k||d.isSc)&&Eac ks ds
 |_::_,[]=>false
def aU.run:aU->List D->Option (List D)
 |.bin op,[a,b]=>(Oat op a b).map fun d=>[d]
 |.eqb ng,[.bool a,.bool b]=>some [.bool (if ng then !(a==b) else a==b)]
 |.not,[.bool b]=>some [.bool (!b)]
 |.neg,[.int k n]=>some [.int k (k.wrap (0-n))]
 |.inv,[.int k n]=>(Aat .xor k (if k.signed then -1 else k.max) n).map fun d=>[d]
 |.conv k,[.int _ n]=>some [.int k (k.wrap n)]
 |.len,[.rows _ rs]=>some [.int .i64 rs.length]
 |.slen,[.str s]=>some [.int .i64 s.length]
 | .row sz off ks, [.rows pg rs, .int _ i] =>
  if pg=sz/\0<=i then match rs[i.toNat]? with
   |some r=>if off+ks.length<=r.length/\Eac ks (r.drop off)=true then some ((r.drop off).take ks.length) else none
   |none=>none
  else none
 |.inb,[.rows _ rs,.int _ i]=>if 0<=i/\i<rs.length then some [] else none
 | .set sz off n, .rows pg rs :: .int _ i :: vs =>
  if pg=sz/\0<=i then match rs[i.toNat]? with
   |some r=>if off+n<=r.length/\vs.length=n then some [.rows sz (rs.set i.toNat (r.take off++vs++r.drop (off+n)))] else none
   |none=>none
  else none
 |.app sz bytes fl,[.rows pg a,.rows sz'' b]=>if pg=sz/\sz''=sz/\(!fl||(a++b).all fun r=>r.all D.isSc)=true/\(a.length+b.length)*bytes<=gX then some [.rows sz (a++b)] else none
 |.mk sz n,vs=>if vs.length=n*sz then some [.rows sz (chunk sz n vs)] else none
 |.make bytes zero,[.int _ n]=>if 0<=n/\n.toNat*bytes<=gX then some [.rows zero.length (Zbq n.toNat zero)] else none
 |.sub sz fl,[.rows pg rs,.int _ lo,.int _ hi]=>if pg=sz/\(!fl||rs.all fun r=>r.all D.isSc)=true/\0<=lo/\lo<=hi/\hi<=rs.length then some [.rows sz ((rs.take hi.toNat).drop lo.toNat)] else none
 |.ssub,[.str s,.int _ lo,.int _ hi]=>if 0<=lo/\lo<=hi/\hi<=s.length then some [.str ((s.take hi.toNat).drop lo.toNat)] else none
 |.pick,[.bool c,a,b]=>some [if c then a else b]
 |.eqs ks,vs=>(Ra6 ks (vs.take ks.length) (vs.drop ks.length)).map fun b=>[.bool b]
 |.min,x::r=>(Na1 .lss x r).map fun d=>[d]
 |.max,x::r=>(Na1 .gtr x r).map fun d=>[d]
 |.bstr,[.rows _ rs]=>(bytesOf rs).map fun l=>[.str l]
 | .sidx, [.str s, .int _ i] => if 0 <= i then match s[i.toNat]? with
   |some b=>some [.int .u8 b.toNat]
   |none=>none
  else none
 |.ne,[.rows _ rs]=>if rs.isEmpty then none else some []
 |.emp,[.rows _ rs]=>some [.bool rs.isEmpty]
 |.dep m,[d]=>if oZ m d then some [] else none
 |.id,[a]=>some [a]
 |.clr sz,[.rows pg rs,.int _ i]=>if pg=sz/\0<=i then some [.rows sz (rs.take i.toNat++(rs.drop i.toNat).map fun r=>r.map fun _=>.hole)] else none
 |.sid,[.str s]=>some [.str s]
 | .one sz, [.rows pg rs, .int _ i] => if pg = sz /\ 0 <= i then match rs[i.toNat]? with
   |some r=>some [.rows sz [r]]
   |none=>none
  else none
 |_,_=>none
inductive Kind where
 |fall | exit (id:Nat) | ret | cont | yield (i:Nat)
 deriving DecidableEq,Inhabited
inductive Tm (β:Type) where
 |leaf (kind:Kind) (xs:List aL) (ext:β)
 |stuck
 |lt (g:Option (aL×Bool)) (p:aU) (xs:List aL) (n:Nat) (k:Tm β)
 |call (g:Option (aL×Bool)) (f:Nat) (xs:List aL) (n:Nat) (olds:List aL) (k:Tm β)
 |ite (c:aL) (t e:Tm β)
 |bind (i:Nat) (t k:Tm β)
 |loop (init:List aL) (body:Tm β)
 deriving Inhabited
structure Out (β:Type) where
 kind:Kind
 xs:List aL
 ext:β
 env:List D
def Out.vals {β:Type}(o:Out β):List D:=o.xs.map (·.val o.env)
def gOn (ρ:List D):Option (aL×Bool)->Bool
 |none=>true
 | some (x, w) => match x.val ρ with
  |.bool b=>b==w
  |_=>false
def iter {β:Type}:Nat->(List D->Option (Out β))->List D->Option (Out β)
 |0,_,_=>none
 |n+1,f,vs=>(f vs).bind fun o=>if o.kind=.cont then iter n f o.vals else some o
def runT {β:Type}(cf:Nat->List D->Option (List D))(fuel:Nat):Tm β->List D->Option (Out β)
 |.leaf k xs e,ρ=>some ⟨k,xs,e,ρ⟩
 |.stuck,_=>none
 | .lt g p xs n k, ρ =>
  if gOn ρ g then (p.run (xs.map (·.val ρ))).bind fun ds=>if ds.length=n then runT cf fuel k (ρ++ds) else none
  else runT cf fuel k (ρ++Zbq n .undef)
 | .call g f xs n olds k, ρ =>
  if gOn ρ g then (cf f (xs.map (·.val ρ))).bind fun ds=>if ds.length=n then runT cf fuel k (ρ++ds) else none
  else runT cf fuel k (ρ++(Zbq (n-olds.length) .undef++olds.map (·.val ρ)))
 | .ite c t e, ρ => match c.val ρ with
  |.bool true=>runT cf fuel t ρ
  |.bool false=>runT cf fuel e ρ
  |_=>none
 |.bind i t k,ρ=>(runT cf fuel t ρ).bind fun o=>if o.kind=.yield i then runT cf fuel k (ρ++o.vals) else some o
 |.loop init body,ρ=>iter fuel (fun vs=>runT cf fuel body (ρ++vs)) (init.map (·.val ρ))
inductive Ent where
 |tm (t:Tm Unit)
 |ext (f:List D->Option (List D))
 |none
def Jbj {β:Type}(o:Out β):Option (List D):=if o.kind=.ret then some o.vals else none
def kH (T:Nat->Ent):Nat->Nat->List D->Option (List D)
 |0,_,_=>none
 | n + 1, f, args => match T f with
  |.tm t=>(runT (kH T n) n t args).bind Jbj
  |.ext e=>e args
  |.none=>none
def Ra8 {α:Type}(a:Nat->Option α):Prop:=∀ n r,a n=some r->a (n+1)=some r
theorem Ra8.le {α:Type}{a:Nat->Option α}(h:Ra8 a){n m:Nat}{r:α}(hn:n<=m)(hr:a n=some r):a m=some r:=by
 induction hn with
 |refl=>exact hr
 |step _ ih=>exact h _ _ ih
open Classical in
noncomputable def lim {α:Type}(a:Nat->Option α):Option α :=
 if h:∃ r n,a n=some r then some h.choose else none
theorem gG {α:Type}{a:Nat->Option α}(h:Ra8 a){r:α}:lim a=some r↔∃ n,a n=some r:=by
 unfold lim;constructor
 ·intro e
  split at e
  ·rename_i hx
   obtain⟨n,hn⟩:=hx.choose_spec;cases e;exact⟨n,hn⟩
  ·cases e
 ·rintro⟨n,hn⟩
  have hx:∃ r n,a n=some r:=⟨r,n,hn⟩;rw[dif_pos hx];obtain⟨m,hm⟩:=hx.choose_spec;have h1:=h.le (Nat.le_max_left n m) hn;have h2:=h.le (Nat.le_max_right n m) hm;rw[h1]at h2;exact h2.symm
theorem Fb8 {α:Type}{a:Nat->Option α}(h:∀ n,a n=none):lim a=none:=by
 unfold lim;rw[dif_neg]
 rintro⟨r,n,hn⟩
 rw[h]at hn;cases hn
theorem gH {α:Type}(x:Option α):lim (fun _=>x)=x:=by
 cases x with
 |none=>exact Fb8 fun _=>rfl
 |some r=>exact (gG (a:=fun _=>some r) fun _ _ h=>h).2 ⟨0,rfl⟩
theorem Ra8.bind {α γ:Type}{a:Nat->Option α}{b:Nat->α->Option γ}(ha:Ra8 a)(hb:∀ x,Ra8 fun n=>b n x):Ra8 fun n=>(a n).bind (b n):=by
 intro n r h;simp only[Zbc]at h ⊢;obtain⟨x,hx,hr⟩:=h;exact⟨x,ha _ _ hx,hb x _ _ hr⟩
theorem Gaw {α γ:Type}{a:Nat->Option α}{b:Nat->α->Option γ}(ha:Ra8 a)(hb:∀ x,Ra8 fun n=>b n x) :
  lim (fun n=>(a n).bind (b n))=(lim a).bind fun x=>lim fun n=>b n x:=by
 apply Option.ext;intro r;rw[gG (ha.bind hb)];simp only[Zbc];constructor
 ·rintro⟨n,x,hx,hr⟩
  exact⟨x,(gG ha).2 ⟨n,hx⟩,(gG (hb x)).2 ⟨n,hr⟩⟩
 ·rintro⟨x,hx,hr⟩
  obtain⟨n,hn⟩:=(gG ha).1 hx;obtain⟨m,hm⟩:=(gG (hb x)).1 hr;exact⟨max n m,x,ha.le (Nat.le_max_left ..) hn,(hb x).le (Nat.le_max_right ..) hm⟩
def Le {α γ:Type}(f g:α->Option γ):Prop:=∀ x r,f x=some r->g x=some r
theorem mU {β:Type}{f g:List D->Option (Out β)}(h:Le f g):∀ {n m:Nat},n<=m->Le (iter n f) (iter m g)
 |0,_,_,_,_,hr=>by cases hr
 |n+1,0,pN,_,_,_=>absurd pN (by omega)
 | n + 1, m + 1, pN, vs, r, hr => by
  simp only[iter,Zbc]at hr ⊢;obtain⟨o,ho,hr⟩:=hr;refine⟨o,h _ _ ho,?_⟩;split at hr
  ·rename_i hk
   rw[if_pos hk];exact mU h (by omega) _ _ hr
  ·rename_i hk
   rw[if_neg hk];exact hr
theorem Ha0 {β:Type}{cf cg:Nat->List D->Option (List D)}(h:∀ f,Le (cf f) (cg f)){n m:Nat}(pN:n<=m)(t:Tm β):Le (runT cf n t) (runT cg m t):=by
 induction t with
 |leaf=>exact fun _ _ h=>h
 |stuck=>exact fun _ _ h=>h
 | lt g p xs k' k ih =>
  intro ρ r hr;simp only[runT]at hr ⊢;split at hr
  ·rename_i hg
   rw[if_pos hg];simp only[Zbc]at hr ⊢;obtain⟨ds,hd,hr⟩:=hr;refine⟨ds,hd,?_⟩;split at hr
   ·rename_i hl;rw[if_pos hl];exact ih _ _ hr
   ·cases hr
  ·rename_i hg
   rw[if_neg hg];exact ih _ _ hr
 | call g f xs k' olds k ih =>
  intro ρ r hr;simp only[runT]at hr ⊢;split at hr
  ·rename_i hg
   rw[if_pos hg];simp only[Zbc]at hr ⊢;obtain⟨ds,hd,hr⟩:=hr;refine⟨ds,h _ _ _ hd,?_⟩;split at hr
   ·rename_i hl;rw[if_pos hl];exact ih _ _ hr
   ·cases hr
  ·rename_i hg
   rw[if_neg hg];exact ih _ _ hr
 | ite c t e iht ihe =>
  intro ρ r hr;simp only[runT]at hr ⊢;split at hr
  ·exact iht _ _ hr
  ·exact ihe _ _ hr
  ·cases hr
 | bind i t k iht ihk =>
  intro ρ r hr;simp only[runT,Zbc]at hr ⊢;obtain⟨o,ho,hr⟩:=hr;refine⟨o,iht _ _ ho,?_⟩;split at hr
  ·rename_i hk;rw[if_pos hk];exact ihk _ _ hr
  ·rename_i hk;rw[if_neg hk];exact hr
 | loop init body ih =>
  intro ρ r hr;simp only[runT]at hr ⊢;exact mU (fun vs r hr=>ih _ _ hr) pN _ _ hr
theorem Eax (T:Nat->Ent):∀ {n m:Nat},n<=m->∀ f,Le (kH T n f) (kH T m f)
 |0,_,_,_,_,_,hr=>by cases hr
 |n+1,0,pN,_,_,_,_=>absurd pN (by omega)
 | n + 1, m + 1, pN, f, args, r, hr => by
  simp only[kH]at hr ⊢;split at hr
  ·simp only[Zbc]at hr ⊢
   obtain⟨o,ho,hr⟩:=hr;exact⟨o,Ha0 (fun f=>Eax T (by omega) f) (by omega) _ _ _ ho,hr⟩
  ·exact hr
  ·cases hr
section
variable (T:Nat->Ent)
noncomputable def Fun (f:Nat)(args:List D):Option (List D):=lim fun n=>kH T n f args
noncomputable def Ev {β:Type}(t:Tm β)(ρ:List D):Option (Out β):=lim fun n=>runT (kH T n) n t ρ
noncomputable def Lp {β:Type}(body:Tm β)(ρ vs:List D):Option (Out β):=lim fun n=>iter n (fun vs=>runT (kH T n) n body (ρ++vs)) vs
variable {T}
theorem Obt (f:Nat)(args:List D):Ra8 fun n=>kH T n f args:=fun n _ h=>Eax T (Ccj n) f _ _ h
theorem Hbu {β:Type}(t:Tm β)(ρ:List D):Ra8 fun n=>runT (kH T n) n t ρ:=fun n _ h=>Ha0 (fun f=>Eax T (Ccj n) f) (Ccj n) t _ _ h
theorem Zbb {β:Type}(body:Tm β)(ρ vs:List D):Ra8 fun n=>iter n (fun vs=>runT (kH T n) n body (ρ++vs)) vs :=
 fun n _ h=>mU (fun vs r hr=>Hbu body _ n r hr) (Ccj n) _ _ h
theorem Ga4 {f:Nat}{args r:List D}:Fun T f args=some r↔∃ n,kH T n f args=some r:=gG (Obt f args)
theorem Oal {β:Type}{t:Tm β}{ρ:List D}{o:Out β}:Ev T t ρ=some o↔∃ n,runT (kH T n) n t ρ=some o:=gG (Hbu t ρ)
theorem Kbw {β:Type}(k:Kind)(xs:List aL)(e:β)(ρ:List D):Ev T (.leaf k xs e) ρ=some ⟨k,xs,e,ρ⟩:=gH _
theorem Obw {β:Type}(g:Option (aL×Bool))(p:aU)(xs:List aL)(n:Nat)(k:Tm β)(ρ:List D) :
  Ev T (.lt g p xs n k) ρ=if gOn ρ g then (p.run (xs.map (·.val ρ))).bind fun ds=>if ds.length=n then Ev T k (ρ++ds) else none
   else Ev T k (ρ++Zbq n .undef):=by
 unfold Ev;simp only[runT];split
 ·rw[Gaw (a:=fun _=>p.run _) (fun _ _ h=>h)
   (fun ds=>by split;exact Hbu k _;exact fun _ _ h=>h)]
  rw[gH];congr 1;funext ds;split
  ·rfl
  ·exact gH _
 ·rfl
theorem Cb0 {β:Type}(g:Option (aL×Bool))(f:Nat)(xs:List aL)(n:Nat)(olds:List aL)(k:Tm β)(ρ:List D) :
  Ev T (.call g f xs n olds k) ρ=if gOn ρ g then (Fun T f (xs.map (·.val ρ))).bind fun ds=>if ds.length=n then Ev T k (ρ++ds) else none
   else Ev T k (ρ++(Zbq (n-olds.length) .undef++olds.map (·.val ρ))):=by
 unfold Ev;simp only[runT];split
 ·rw[Gaw (a:=fun n=>kH T n f _) (Obt f _)
   (fun ds=>by split;exact Hbu k _;exact fun _ _ h=>h)]
  rw[<- Fun];congr 1;funext ds;split
  ·rfl
  ·exact gH _
 ·rfl
theorem Obx {β:Type}(c:aL)(t e:Tm β)(ρ:List D) :
  Ev T (.ite c t e) ρ=match c.val ρ with
   |.bool true=>Ev T t ρ
   |.bool false=>Ev T e ρ
   |_=>none:=by
 unfold Ev;simp only[runT];split
 ·rfl
 ·rfl
 ·exact gH _
theorem Kbx {β:Type}(i:Nat)(t k:Tm β)(ρ:List D) :
  Ev T (.bind i t k) ρ=(Ev T t ρ).bind fun o=>if o.kind=.yield i then Ev T k (ρ++o.vals) else some o:=by
 unfold Ev;simp only[runT];rw[Gaw (a:=fun n=>runT (kH T n) n t ρ) (Hbu t ρ) (fun o=>by split;exact Hbu k _;exact fun _ _ h=>h)];congr 1;funext o;split
 ·rfl
 ·exact gH _
theorem Kbv {β:Type}(init:List aL)(body:Tm β)(ρ:List D):Ev T (.loop init body) ρ=Lp T body ρ (init.map (·.val ρ)):=rfl
theorem Kbu {β:Type}(body:Tm β)(ρ vs:List D) :
  Lp T body ρ vs=(Ev T body (ρ++vs)).bind fun o=>if o.kind=.cont then Lp T body ρ o.vals else some o:=by
 have hm:∀ vs,Ra8 fun n=>iter n (fun vs=>runT (kH T n) n body (ρ++vs)) vs:=fun vs=>Zbb body ρ vs
 unfold Lp
 have e:∀ vs r,(lim fun n=>iter n (fun vs=>runT (kH T n) n body (ρ++vs)) vs)=some r↔((Ev T body (ρ++vs)).bind fun o=>if o.kind=.cont then (lim fun n=>iter n (fun vs=>runT (kH T n) n body (ρ++vs)) o.vals) else some o)=some r:=by
  intro vs r;rw[gG (hm vs)];simp only[Zbc];constructor
  ·rintro⟨n,hn⟩
   cases n with
   |zero=>cases hn
   | succ n =>
    simp only[iter,Zbc]at hn;obtain⟨o,ho,hr⟩:=hn;refine⟨o,Oal.2 ⟨n+1,ho⟩,?_⟩;split at hr
    ·rename_i hk
     rw[if_pos hk,gG (hm _)];exact⟨n+1,mU (fun _ _ h=>h) (Ccj n) _ _ hr⟩
    ·rename_i hk
     rw[if_neg hk];exact hr
  ·rintro⟨o,ho,hr⟩
   obtain⟨n,hn⟩:=Oal.1 ho;split at hr
   ·rename_i hk
    obtain⟨m,oA⟩:=(gG (hm _)).1 hr;refine⟨max n m+1,?_⟩;simp only[iter,Zbc];refine⟨o,(Hbu body (ρ++vs)).le (by omega) hn,?_⟩;rw[if_pos hk];exact mU (fun vs r h=>(Hbu body (ρ++vs)).le (by omega) h) (by omega) _ _ oA
   ·rename_i hk
    refine⟨n+1,?_⟩;simp only[iter,Zbc];exact⟨o,Hbu body _ _ _ hn,by rw[if_neg hk];exact hr⟩
 exact Option.ext (e vs)
theorem Obs {f:Nat}{t:Tm Unit}(h:T f=.tm t)(args:List D):Fun T f args=(Ev T t args).bind Jbj:=by
 apply Option.ext;intro r;rw[Ga4];simp only[Zbc];constructor
 ·rintro⟨n,hn⟩
  cases n with
  |zero=>cases hn
  | succ n =>
   simp only[kH,h,Zbc]at hn;obtain⟨o,ho,hr⟩:=hn;exact⟨o,Oal.2 ⟨n,ho⟩,hr⟩
 ·rintro⟨o,ho,hr⟩
  obtain⟨n,hn⟩:=Oal.1 ho;refine⟨n+1,?_⟩;simp only[kH,h,Zbc];exact⟨o,hn,hr⟩
theorem Oak {f:Nat}{e:List D->Option (List D)}(h:T f=.ext e)(args:List D):Fun T f args=e args:=by
 apply Option.ext;intro r;rw[Ga4];constructor
 ·rintro⟨n,hn⟩
  cases n with
  |zero=>cases hn
  |succ n=>simpa[kH,h] using hn
 ·intro hr
  exact⟨1,by simpa[kH,h] using hr⟩
end
def Tm.strip {β:Type}:Tm β->Tm Unit
 |.leaf k xs _=>.leaf k xs ()
 |.stuck=>.stuck
 |.lt g p xs n k=>.lt g p xs n k.strip
 |.call g f xs n olds k=>.call g f xs n olds k.strip
 |.ite c t e=>.ite c t.strip e.strip
 |.bind i t k=>.bind i t.strip k.strip
 |.loop init body=>.loop init body.strip
def Out.strip {β:Type}(o:Out β):Out Unit:=⟨o.kind,o.xs,(),o.env⟩
theorem Out.strip_vals {β:Type}(o:Out β):o.strip.vals=o.vals:=rfl
theorem La3 {β:Type}{f:List D->Option (Out β)}{g:List D->Option (Out Unit)}(h:∀ vs,g vs=(f vs).map Out.strip):∀ n vs,iter n g vs=(iter n f vs).map Out.strip
 |0,_=>rfl
 | n + 1, vs => by
  simp only[iter,h]
  cases f vs with
  |none=>rfl
  | some o =>
   simp only[Acm,Zbj];by_cases hk:o.kind=.cont
   ·have:o.strip.kind=.cont:=hk
    rw[if_pos hk,if_pos this,Out.strip_vals];exact La3 h n _
   ·have:¬ o.strip.kind=.cont:=hk
    rw[if_neg hk,if_neg this];rfl
theorem Xaa {β:Type}(cf:Nat->List D->Option (List D))(n:Nat)(t:Tm β):∀ ρ,runT cf n t.strip ρ=(runT cf n t ρ).map Out.strip:=by
 induction t with
 |leaf=>exact fun _=>rfl
 |stuck=>exact fun _=>rfl
 | lt g p xs k' k ih =>
  intro ρ;simp only[Tm.strip,runT];split
  ·cases p.run (xs.map (·.val ρ)) with
   |none=>rfl
   | some ds =>
    simp only[Zbj];split
    ·exact ih _
    ·rfl
  ·exact ih _
 | call g f xs k' olds k ih =>
  intro ρ;simp only[Tm.strip,runT];split
  ·cases cf f (xs.map (·.val ρ)) with
   |none=>rfl
   | some ds =>
    simp only[Zbj];split
    ·exact ih _
    ·rfl
  ·exact ih _
 | ite c t e iht ihe =>
  intro ρ;simp only[Tm.strip,runT];split
  ·exact iht _
  ·exact ihe _
  ·rfl
 | bind i t k iht ihk =>
  intro ρ;simp only[Tm.strip,runT,iht]
  cases runT cf n t ρ with
  |none=>rfl
  | some o =>
   simp only[Acm,Zbj];by_cases hk:o.kind=.yield i
   ·have:o.strip.kind=.yield i:=hk
    rw[if_pos hk,if_pos this,Out.strip_vals];exact ihk _
   ·have:¬ o.strip.kind=.yield i:=hk
    rw[if_neg hk,if_neg this];rfl
 | loop init body ih =>
  intro ρ;simp only[Tm.strip,runT];exact La3 (fun vs=>ih _) _ _
inductive Tr (α:Type) where
 |nil
 |node (x:Option α) (l r:Tr α)
 |over (n:Nat) (x:Option α) (t:Tr α)
 deriving Inhabited
def Tr.get {α:Type}:Tr α->Nat->Option α
 |.nil,_=>none
 |.node x l r,n=>bif Nat.beq n 0 then x else bif Nat.beq (n % 2) 1 then l.get (n / 2) else r.get (n / 2-1)
 |.over m x t,n=>bif Nat.beq n m then x else t.get n
def Tr.set {α:Type}:Nat->Tr α->Nat->Option α->Tr α
 |0,t,n,x=>.over n x t
 |k+1,.node y l r,n,x=>bif Nat.beq n 0 then .node x l r else bif Nat.beq (n % 2) 1 then .node y (Tr.set k l (n / 2) x) r else .node y l (Tr.set k r (n / 2-1) x)
 |k+1,.nil,n,x=>bif Nat.beq n 0 then .node x .nil .nil else bif Nat.beq (n % 2) 1 then .node none (Tr.set k .nil (n / 2) x) .nil else .node none .nil (Tr.set k .nil (n / 2-1) x)
 |_+1,.over m y t,n,x=>.over n x (.over m y t)
inductive CK where
 |sc (z:D)
 |sl (sz:Nat)
 |pn
 |ot
 deriving Inhabited
structure TI where
 agg:Bool
 size:Nat
 bytes:Nat
 cells:List CK
 flds:List (Nat×Nat)
 elem:Option Nat
 ik:Option IntKind
 isBool:Bool
 isStr:Bool
 isPtr:Bool
 cmp:Bool
 deriving Inhabited
def flat (P:Program):Nat->TypeId->Option (List TypeId)
 |0,_=>none
 | d + 1, t =>
  match P.underlying t with
  |some (.struct fs)=>fs.toList.foldl (fun acc f=>acc.bind fun l=>(flat P d f.type).bind fun m=>bif Nat.beq f.offset l.length then some (l++m) else none) (some [])
  |some (.array _ _)=>none
  |some _=>some [t]
  |none=>none
def nS (P:Program)(t:TypeId):CK :=
 match P.underlying t with
 |some (.int k)=>.sc (.int k 0)
 |some .bool=>.sc (.bool false)
 |some .string=>.sc (.str [])
 |some (.slice e)=>.sl (((P.info? e).map (·.size)).getD 0)
 |some (.pointer _)=>.pn
 |_=>.ot
def zeroCell:Value->CK->Bool
 |.int k n,.sc (.int k' n')=>decide (k=k')&&decide (n=0)&&decide (n'=0)
 |.bool b,.sc (.bool b')=>decide (b=false)&&decide (b'=false)
 |.string s,.sc (.str l)=>decide (s.data.toList=[])&&decide (l=[])
 |.slice none 0 0,.sl _=>true
 |.pointer none,.pn=>true
 |_,_=>false
def Uaa (agg:Bool)(z:Option Value)(cs:List CK):Bool :=
 match agg,z,cs with
 |true,some (.agg vs),cs=>vs.toList.length==cs.length&&(vs.toList.zip cs).all fun p=>zeroCell p.1 p.2
 |false,some v,[c]=>zeroCell v c
 |_,_,_=>false
def Rbm (P:Program)(d:Nat)(t:TypeId):Bool :=
 match flat P d t,P.info? t with
 |some l,some i=>Nat.beq l.length i.size
 |_,_=>false
def Oaa (P:Program):Nat->TypeId->Bool
 |0,_=>false
 | d + 1, t =>
  match P.underlying t with
  |some (.int _)=>true
  |some .bool=>true
  |some .string=>true
  | some (.struct fs) => !(P.stoodInHeld t) && fs.toList.all fun f => f.name != "_" && Oaa P d f.type && Rbm P d f.type
  |_=>false
def Kas:TypeDesc->Bool
 |.struct _=>true
 |.array _ _=>true
 |_=>false
def Bbj:TypeDesc->List (Nat×Nat)
 |.struct fs=>fs.toList.map fun f=>(f.offset,f.type)
 |_=>[]
def Bbu:TypeDesc->Option Nat
 |.slice e=>some e
 |_=>none
def Rbr:TypeDesc->Option IntKind
 |.int k=>some k
 |_=>none
def Taf:TypeDesc->Bool
 |.bool=>true
 |_=>false
def Abv:TypeDesc->Bool
 |.string=>true
 |_=>false
def Abw:TypeDesc->Bool
 |.pointer _=>true
 |_=>false
def Sbw (P:Program)(t:TypeId)(i:TypeInfo)(u:TypeDesc)(cs:List CK):TI :=
  { agg:=Kas u,size:=i.size,bytes:=i.bytes,cells:=cs,flds:=Bbj u,elem:=Bbu u,ik:=Rbr u,isBool:=Taf u,isStr:=Abv u,
    isPtr:=Abw u,cmp:=Kas u&&Oaa P 12 t&&!(P.eqGuardType P.depth t) }
def sV (P:Program)(t:TypeId):Option TI :=
 match P.info? t,P.underlying t,(flat P 12 t).map (·.map (nS P)) with
 |some i,some u,some cs=>bif Nat.beq cs.length i.size&&Uaa (Kas u) i.zero cs then some (Sbw P t i u cs) else none
 |_,_,_=>none
inductive Pth where
 |no
 |view
 |path (p:List (aL×Nat×Nat))
 |suf (sz:Nat) (lo:aL)
 deriving Inhabited
inductive aR where
 |dead
 |sc (x:aL)
 |su (g:aL×Bool) (x:aL)
 |ex (r:Nat)
 |sn (deps:List (Nat×Nat)) (p:Pth) (nie:Bool) (x:aL)
 |px (b off:Nat)
 |pe (l:aR) (sz:Nat) (i:aL) (off:Nat)
 |rp (deps:List (Nat×Nat)) (sz:Nat) (x:aL)
 |pn
 |clo (f:Nat) (fu:List aR)
 deriving Inhabited
inductive SV where
 |dead
 |one (l:aR)
 |agg (ls:List aR)
 |tup (vs:List (Bool×List aR))
 deriving Inhabited
inductive RSt where
 |live | frozen | gone
 |fwd (r:Nat)
 deriving DecidableEq,Inhabited
inductive aS where
 |slot (g:Option (aL×Bool)) (v:SV)
 |box (ro:Bool) (ls:List aR)
 |root (x:aL) (m bc:Nat) (st:RSt)
 deriving Inhabited
def kT (t:Nat):Nat:=3*t
def kB (b:Nat):Nat:=3*b+1
def kR (r:Nat):Nat:=3*r+2
inductive RdM (α:Type) where
 |ret (a:α)
 |no
 |rd (k:Nat) (f:Option aS->RdM α)
def RdM.bind {α γ:Type}:RdM α->(α->RdM γ)->RdM γ
 |.ret a,f=>f a
 |.no,_=>.no
 |.rd k h,f=>.rd k fun c=>(h c).bind f
instance:Monad RdM:={ pure:=.ret,bind:=.bind }
def RdM.run {α:Type}(look:Nat->Option aS):RdM α->Option (α×List Nat)
 |.ret a=>some (a,[])
 |.no=>none
 |.rd k f=>((f (look k)).run look).map fun x=>(x.1,k::x.2)
def RdM.eval {α:Type}(look:Nat->Option aS):RdM α->Option α
 |.ret a=>some a
 |.no=>none
 |.rd k f=>(f (look k)).eval look
def rdK (k:Nat):RdM (Option aS):=.rd k .ret
def nL {α:Type}:Option α->RdM α
 |some a=>.ret a
 |none=>.no
def bM (b:Bool):RdM Unit:=bif b then .ret () else .no
inductive Step where
 |prim (p:aU) (xs:List aL) (n:Nat)
 |call (f:Nat) (xs:List aL) (n:Nat) (olds:List aL)
 deriving Inhabited
def Step.n:Step->Nat
 |.prim _ _ n=>n
 |.call _ _ n _=>n
structure bP where
 lets:List Step
 upd:List (Nat×aS)
 deriving Inhabited
def bI (l:List Step):Nat:=l.foldl (fun s x=>s+x.n) 0
inductive LS where
 |sc
 |fz (nie:Bool)
 |mu (m:Nat)
 |ow (m:Nat)
 |px (b:Nat)
 |clo (f:Nat) (fu:List LS)
 |rp (sz:Nat)
 deriving Inhabited
inductive BS where
 |sc
 |fz (nie:Bool)
 |ow (m:Nat)
 |ot
 deriving Inhabited
inductive BO where
 |sc
 |fz
 |ow (m:Nat)
 |dead
 deriving Inhabited
inductive LR where
 |sc
 |fz
 |ow (m:Nat)
 |rp (sz:Nat)
 |bx (cells:List BO)
 deriving Inhabited
structure Sig where
 fn:Nat
 params:List (Bool×List LS)
 boxes:List (Bool×List (BS×BO))
 results:List (Bool×List LR)
 deriving Inhabited
structure Env where
 ti:Nat->Option TI
 sigs:List (Nat×Sig)
 ntmps:Nat
 ngh:Nat:=0
 freezeEx:Bool:=false
 moveSn:Bool:=false
 nomv:List (Nat×Nat):=[]
 hints:List (Nat×List (Nat×Nat×Nat×Nat)×List Nat×Nat×List Nat):=[]
 pxs:List Nat:=[]
 nbx:Nat:=0
 deriving Inhabited
def Rbt (a b:IntKind):Bool:=decide (a=b)
def D.beq0:D->D->Bool
 |.int k n,.int k' n'=>Rbt k k'&&decide (n=n')
 |.bool a,.bool b=>a==b
 |.str a,.str b=>a==b
 |.rows s [],.rows s' []=>Nat.beq s s'
 |.undef,.undef=>true
 |.hole,.hole=>true
 |_,_=>false
def aL.beq0:aL->aL->Bool
 |.v i,.v j=>Nat.beq i j
 |.c a,.c b=>a.beq0 b
 |_,_=>false
def Kba:Option (aL×Bool)->Option (aL×Bool)->Bool
 |none,none=>true
 |some (a,b),some (c,d)=>a.beq0 c&&(b==d)
 |_,_=>false
def fK:CK->aR
 |.sc z=>.sc (.c z)
 |.sl sz=>.sn [] .no true (.c (.rows sz []))
 |.pn=>.pn
 |.ot=>.dead
def Tax (ti:Nat->Option TI)(t:TypeId):Value->Option SV
 |.int k n=>some (.one (.sc (.c (.int k n))))
 |.bool b=>some (.one (.sc (.c (.bool b))))
 |.string s=>some (.one (.sc (.c (.str s.data.toList))))
 | .slice none 0 0 => match ti t with
  |some { cells:=[.sl sz],.. }=>some (.one (.sn [] .no true (.c (.rows sz []))))
  |_=>none
 |.pointer none=>some (.one .pn)
 |_=>none
section
variable (E:Env)
def noG:Option (aL×Bool)->Bool
 |none=>true
 |some _=>false
def unG (g:Option (aL×Bool)):SV->SV
 |.one (.su h x)=>bif Kba g (some h) then .one (.sc x) else .one (.su h x)
 |v=>v
def gOk (g:Option (aL×Bool)):Option (aL×Bool)->Bool
 |none=>true
 |g'=>Kba g g'
def Pa5 (g:Option (aL×Bool))(t:TypeId):Operand->RdM SV
 | .tmp k => .rd (kT k) fun
  |some (.slot g' v)=>bif gOk g g'&&Acw k E.ntmps then .ret (unG g v) else .no
  |_=>.no
 |.const v=>nL (Tax E.ti t v)
 |.func f=>.ret (.one (.clo f []))
 |.global _=>.no
def one:SV->RdM aR
 |.one l=>.ret l
 |_=>.no
def rdL (g:Option (aL×Bool))(t:TypeId)(x:Operand):RdM aR:=do one (<- Pa5 E g t x)
def uY (g:Option (aL×Bool)):aR->Option aL
 |.sc a=>some a
 |.su h a=>bif Kba g (some h) then some a else none
 |_=>none
def rdA (g:Option (aL×Bool))(t:TypeId)(x:Operand):RdM aL:=do
 nL (uY g (<- rdL E g t x))
def Lak (g:Option (aL×Bool))(h:aL×Bool)(t:TypeId)(x:Operand):RdM aL:=do
 let l <- rdL E g t x
 match uY g l with
 |some a=>.ret a
 |none=>nL (uY (some h) l)
def mkS (g:Option (aL×Bool))(x:aL):SV:=match g with
 |none=>.one (.sc x)
 |some z=>.one (.su z x)
def wD:List (Nat×Nat)->RdM (List (Nat×Nat))
 |[]=>.ret []
 | (r, k) :: rest => do
  match <- rdK (kR r) with
  | some (.root _ _ bc st) =>
   let ds <- wD rest
   match st with
   |.frozen=>bif Nat.beq bc k then .ret ds else .no
   |.live=>bif Nat.beq bc k then .ret ((r,k)::ds) else .no
   |_=>.no
  |_=>.no
structure SlR where
 x:aL
 deps:List (Nat×Nat)
 own:Option (Nat×Nat×Nat×Pth)
 nie:Bool
def yJ:aR->RdM SlR
 | .ex r => do
  match <- rdK (kR r) with
  |some (.root x m bc .live)=>.ret ⟨x,[(r,bc)],some (r,bc,m,.path []),false⟩
  |some (.root x m bc .frozen)=>.ret ⟨x,[],none,false⟩
  |_=>.no
 | .sn deps p nie x => do
  let ds <- wD deps
  match p,deps,ds with
  |.no,_,_=>.ret ⟨x,ds,none,nie⟩
  | p, [(r, k)], [_] => do
   match <- rdK (kR r) with
   |some (.root _ m _ .live)=>.ret ⟨x,[(r,k)],some (r,k,m,p),nie⟩
   |_=>.no
  |_,_,_=>.ret ⟨x,ds,none,nie⟩
 |_=>.no
def jS (s:SlR)(i:aL)(sz off:Nat):CK->aL->aR
 |.sc _,y=>.sc y
 | .sl _, y =>
  match s.own with
  |some (r,k,m,.path p)=>bif Nat.ble (p.length+2) m then .sn [(r,k)] (.path (p++[(i,sz,off)])) false y else .sn [] .no false y
  |_=>.sn s.deps .no false y
 |_,_=>.dead
def eT (s:SlR)(i:aL)(sz:Nat):Nat->List CK->Nat->List aR
 |_,[],_=>[]
 |off,c::cs,y=>jS s i sz off c (.v y)::eT s i sz (off+1) cs (y+1)
def kD (agg:Bool):SV->Option (List aR)
 |.one l=>bif agg then none else some [l]
 |.agg ls=>bif agg then some ls else none
 |_=>none
def Uar (agg:Bool)(ls:List aR):Option SV :=
 bif agg then some (.agg ls) else match ls with
  |[l]=>some (.one l)
  |_=>none
def Far:CK->Nat
 |.sc (.int _ _)=>0
 |.sc (.bool _)=>1
 |.sc (.str _)=>2
 |_=>3
def Jb0:CK->Bool
 |.sc _=>true
 |_=>false
def Oas:List CK->Bool
 |[]=>true
 |.sc _::r=>Oas r
 |_=>false
structure Put where
 xs:List aL
 moves:List (Nat×Nat×Nat)
 holes:List (Nat×Nat×List (aL×Nat×Nat))
 frz:List Nat
 depth:Nat
def big:Nat:=99
def Sa4 (mv dt:Bool)(off:Nat):aR->RdM Put
 |.sc x=>.ret ⟨[x],[],[],[],big⟩
 | .ex r => do
  match <- rdK (kR r) with
  |some (.root x m bc .live)=>bif mv then .ret ⟨[x],[(off,r,m)],[],[],m⟩ else .ret ⟨[x],[],[],[r],0⟩
  |some (.root x m bc .frozen)=>.ret ⟨[x],[],[],[],0⟩
  |_=>.no
 | .sn deps p nie x => do
  match deps,nie,x with
  |[],true,.c (.rows _ [])=>.ret ⟨[x],[],[],[],big⟩
  | _, _, _ =>
   let s <- yJ (.sn deps p nie x)
   match s.own with
   |some (r,k,m,.path q)=>bif dt&&Nat.ble (q.length+1) m then .ret ⟨[x],[],[(off,r,q)],[],m-q.length⟩ else .ret ⟨[x],[],[],[r],0⟩
   |_=>.ret ⟨[x],[],[],s.deps.map (·.1),0⟩
 |_=>.no
def rW (mv dt:Bool):Nat->List aR->RdM Put
 |_,[]=>.ret ⟨[],[],[],[],big⟩
 | off, l :: ls => do
  let a <- Sa4 mv dt off l
  let b <- rW mv dt (off+1) ls
  .ret ⟨a.xs++b.xs,a.moves++b.moves,a.holes++b.holes,a.frz++b.frz,min a.depth b.depth⟩
def has (l:List Nat)(n:Nat):Bool:=l.any (Nat.beq n)
def meets (a b:List Nat):Bool:=a.any fun x=>has b x
def dS:List Nat->RdM (List (Nat×aS))
 |[]=>.ret []
 | r :: rs => do
  match <- rdK (kR r) with
  | some (.root x m bc .live) => do
   let l <- dS rs
   .ret ((kR r,.root x m bc .frozen)::l)
  |some (.root _ _ _ .frozen)=>dS rs
  |_=>.no
def distinct:List Nat->Bool
 |[]=>true
 |x::r=>!(has r x)&&distinct r
def Nah:Nat->aL->List (aL×Nat×Nat)->aL->List Step×aL
 |_,_,[],y=>([],y)
 | nv, X, (i, sz, off) :: p, y =>
  match p with
  |[]=>([.prim (.set sz off 1) [X,i,y] 1],.v nv)
  | _ =>
   let (l,z):=Nah (nv+1) (.v nv) p y
   let n:=bI l
   ([.prim (.row sz off [false]) [X,i] 1]++l++[.prim (.set sz off 1) [X,i,z] 1],.v (nv+1+n))
def tX (o:Oper)(g:Option (aL×Bool))(lets:List Step)(v:SV)(upd:List (Nat×aS)):RdM bP :=
 .ret ⟨lets,(match o.dst with|some d=>[(kT d,.slot g v)]|none=>[])++upd⟩
def tV (o:Oper)(g:Option (aL×Bool))(nv:Nat)(p:aU)(xs:List aL):RdM bP :=
 .ret ⟨[.prim p xs 1],match o.dst with|some d=>[(kT d,.slot none (mkS g (.v nv)))]|none=>[]⟩
def Zaz (o:Oper)(g:Option (aL×Bool))(nv:Nat)(v:SV):RdM bP :=
 match g,v with
 | some _, .one l => match uY g l with
  |some x=>tV o g nv .id [x]
  |none=>tX o g [] v []
 |_,_=>tX o g [] v []
def atoms:List aR->Option (List aL)
 |[]=>some []
 |.sc x::r=>(atoms r).map (x::·)
 |_=>none
def vB:List SV->Option (List aR)
 |[]=>some []
 |.one l::r=>(vB r).map (l::·)
 |_=>none
def Ja0 (g:Option (aL×Bool)):List aR->Option (List aL)
 |[]=>some []
 |l::r=>(uY g l).bind fun x=>(Ja0 g r).map (x::·)
def tiR (t:TypeId):RdM TI:=nL (E.ti t)
def setRange {α:Type}(ls:List α)(off:Nat)(vs:List α):List α:=ls.take off++vs++ls.drop (off+vs.length)
def Pac:aR->Bool
 |.su _ _=>false
 |_=>true
def Dax (nv:Nat)(mv dt:Bool)(o:Oper)(g:Option (aL×Bool))(ti:TI)(p:aR)(ls:List aR):RdM bP:=do
 bM (Nat.beq ls.length ti.size&&o.dst.isNone)
 match p with
 | .px b off => do
  match <- rdK (kB b) with
  | some (.box false bs) => do
   bM (Nat.ble (off+ls.length) bs.length&&noG g&&ls.all Pac)
   .ret ⟨[],[(kB b,.box false (setRange bs off ls))]⟩
  |_=>.no
 | .pe l sz i off => do
  bM (noG g)
  let s <- yJ l
  match s.own with
  | some (r, k, m, .path q) => do
   bM (Nat.ble (q.length+1) m)
   match <- rdK (kR r) with
   | some (.root X m bc .live) => do
    let pu <- rW mv dt off ls
    let fr <- dS pu.frz
    bM (!(has pu.frz r)&&!(pu.moves.any fun z=>Nat.beq z.2.1 r)&&pu.holes.isEmpty&&distinct (pu.moves.map (·.2.1))&&!(pu.moves.any fun z=>has pu.frz z.2.1))
    let m':=min m (q.length+1+pu.depth)
    let st1:Step:=.prim (.set sz off ti.size) ([s.x,i]++pu.xs) 1
    let (l2,X'):=Nah (nv+1) X q (.v nv)
    .ret ⟨st1::l2,(kR r,.root X' m' (bc+1) .live)::(pu.moves.map fun z=>(kR z.2.1,.root (.c .hole) 0 0 .gone))++fr⟩
   |_=>.no
  |_=>.no
 |_=>.no
def Ual (nv:Nat)(o:Oper)(g:Option (aL×Bool))(ti:TI)(p:aR):RdM bP:=do
 match p with
 | .px b off => do
  match <- rdK (kB b) with
  | some (.box _ bs) =>
   bM (Nat.ble (off+ti.size) bs.length)
   match Uar ti.agg ((bs.drop off).take ti.size) with
   |some v=>Zaz o g nv v
   |none=>.no
  |_=>.no
 | .pe l sz i off => do
  let s <- yJ l
  match Uar ti.agg (eT s i sz off ti.cells nv) with
  |some (.one (.sc x))=>tV o g nv (.row sz off [true]) [s.x,i]
  |some v=>tX o g [.prim (.row sz off (ti.cells.map Jb0)) [s.x,i] ti.size] v []
  |none=>.no
 |_=>.no
def Sai (o:Oper)(g:Option (aL×Bool))(fo:Nat):aR->RdM bP
 |.px b off=>tX o g [] (.one (.px b (off+fo))) []
 |.pe l sz i off=>tX o g [] (.one (.pe l sz i (off+fo))) []
 |_=>.no
def sI (flds:List (Nat×Nat))(ti:Nat->Option TI):List aR->List (Nat×SV)->Option (List aR)
 |ls,[]=>some ls
 | ls, (i, v) :: r =>
  match flds[i]? with
  | some (off, t) => match ti t with
   | some f => match kD f.agg v with
    |some vs=>bif Nat.beq vs.length f.size&&Nat.ble (off+f.size) ls.length then sI flds ti (setRange ls off vs) r else none
    |none=>none
   |none=>none
  |none=>none
def Da7 (g:Option (aL×Bool))(ty:Nat->TypeId):List (Nat×Operand)->RdM (List (Nat×SV))
 |[]=>.ret []
 | (i, x) :: r => do
  let v <- Pa5 E g (ty i) x
  let l <- Da7 g ty r
  .ret ((i,v)::l)
def Ca5 (ti:TI)(len:Nat):List aR->List (Nat×SV)->Option (List aR)
 |ls,[]=>some ls
 | ls, (i, v) :: r =>
  match kD ti.agg v with
  |some vs=>bif Nat.beq vs.length ti.size&&Acw i len then Ca5 ti len (setRange ls (i*ti.size) vs) r else none
  |none=>none
def Fbv {α:Type}(l:List α):Nat->List α
 |0=>[]
 |n+1=>l++Fbv l n
def Uam (pk:Bool)(y:SlR):RdM (Nat×List (Nat×aS)×List Nat) :=
 bif pk then .ret (big,[],y.deps.map (·.1)) else
 match y.own with
 | some (r, k, m, .path []) =>
  bif Nat.ble 2 m then .ret (m,[(kR r,.root (.c .hole) 0 0 .gone)],[r]) else .ret (1,[],[r])
 | some (r, k, m, _) => do
  let fr <- dS [r]
  .ret (1,fr,[r])
 | none => match y.x with
  |.c (.rows _ [])=>.ret (big,[],[])
  | _ => do
   let fr <- dS (y.deps.map (·.1))
   .ret (1,fr,y.deps.map (·.1))
def yD (nv nr:Nat)(o:Oper)(ti:TI)(y:SlR)(dy:Nat)(gm:List (Nat×aS))(sx:aL)(m:Nat)(pre:List Step)(upd:List (Nat×aS)):RdM bP :=
 tX o none (pre++[.prim (.app ti.size ti.bytes (Oas ti.cells)) [sx,y.x] 1]) (.one (.ex nr))
  ((kR nr,.root (.v (nv+bI pre)) (bif Oas ti.cells then big else min m dy) 0 .live)::upd++gm)
def Mas (nv nr:Nat)(mv dt:Bool)(o:Oper)(ti:TI)(sl yl:aR):RdM bP:=do
 let y <- yJ yl
 let pk:=Oas ti.cells
 let (dy,gm,ry) <- Uam pk y
 match sl with
 |.sn [] _ true (.c (.rows z []))=>yD nv nr o ti y dy gm (.c (.rows z [])) big [] []
 | _ => do
  let s <- yJ sl
  match s.own with
  | some (r, k, m, q) =>
   bM ((!(has ry r)||pk)&&Nat.ble 1 m)
   match q with
   |.path []=>yD nv nr o ti y dy gm s.x m [] [(kR r,.root (.c .hole) 0 0 .gone)]
   |.view=>bif pk||Nat.beq m 1 then yD nv nr o ti y dy gm s.x m [] [(kR r,.root (.c .hole) 0 0 .gone)] else .no
   | .path q => do
    bM (Nat.ble (q.length+1) m&&!(has ry r))
    match <- rdK (kR r) with
    | some (.root X m bc .live) =>
     let (l,X'):=Nah nv X q (.c .hole)
     yD nv nr o ti y dy gm s.x (m-q.length) l [(kR r,.root X' m (bc+1) .live)]
    |_=>.no
   |.no=>.no
   |.suf _ _=>.no
  |none=>.no
def jT:List LS->List aR->List (Nat×Nat×Nat)->Option (List (Nat×Nat×Nat))
 |[],[],acc=>some acc
 |.px b::ss,.px c off::ls,acc=>jT ss ls ((b,c,off)::acc)
 |_,_,_=>none
def Pat:List LS->List aR->Bool
  |[],[]=>true
  | s :: ss, l :: ls =>
    (match s,l with
     |.sc,.sc _=>true
     |.sc,.su _ _=>true
     |.fz _,.ex _=>true
     |.fz _,.sn ..=>true
     |.mu _,.ex _=>true
     |.mu _,.sn ..=>true
     |.ow _,.ex _=>true
     |.ow _,.sn ..=>true
     |.px _,.px _ _=>true
     |.clo f cs,.clo f' kk=>Nat.beq f f'&&Nat.beq cs.length kk.length
     |.rp _,.rp _ _ _=>true
     |_,_=>false)&&Pat ss ls
  |_,_=>false
def tH:SV->List aR
 |.one l=>[l]
 |.agg ls=>ls
 |_=>[]
def Rb9:SV->Bool
 |.agg _=>true
 |_=>false
def Ta4:List (Bool×List LS)->List SV->Bool
 |[],[]=>true
 |(a,ss)::ps,v::vs=>(a==Rb9 v)&&Pat ss (tH v)&&Ta4 ps vs
 |_,_=>false
def Ia8 (f:Nat)(vs:List SV):List (Nat×Sig)->Option (Nat×Sig)
 |[]=>none
 |(k,s)::r=>bif Nat.beq s.fn f&&Ta4 s.params vs then some (k,s) else Ia8 f vs r
inductive RT where
 |nil
 |own (r d:Nat)
 |mu (r d:Nat) (q:List (aL×Nat×Nat)) (X:aL)
 deriving Inhabited
structure Take where
 xs:List aL
 ptrs:List (Nat×Nat×Nat)
 deps:List (Nat×Nat)
 lets:List Step
 rts:List RT
def Take.empty:Take:=⟨[],[],[],[],[]⟩
def Oa0 (g:Option (aL×Bool))(T:Take)(l:aR):RdM Take:=do
 let x <- nL (uY g l)
 .ret { T with xs:=T.xs++[x] }
def rH (T:Take)(nie:Bool)(l:aR):RdM Take:=do
 let s <- yJ l
 .ret { T with xs:=T.xs++[s.x],deps:=T.deps++s.deps,lets:=T.lets++(bif nie&&!s.nie then [.prim .ne [s.x] 0] else []) }
def uV (T:Take)(d:Nat):aR->RdM Take
 | .ex r => do
  match <- rdK (kR r) with
  | some (.root x m bc .live) => do
   bM (Nat.ble d m)
   .ret { T with xs:=T.xs++[x],rts:=T.rts++[.own r d] }
  |_=>.no
 |.sn [] _ true (.c (.rows z []))=>.ret { T with xs:=T.xs++[.c (.rows z [])],rts:=T.rts++[.nil] }
 |_=>.no
def Kaz (T:Take)(d:Nat)(l:aR):RdM Take:=do
 let s <- yJ l
 match s.own with
 | some (r, k, m, .path q) => do
  bM (Nat.ble (q.length+d) m)
  match <- rdK (kR r) with
  |some (.root X _ _ .live)=>.ret { T with xs:=T.xs++[s.x],rts:=T.rts++[.mu r d q X] }
  |_=>.no
 |_=>.no
def Hag (T:Take)(z:Nat):aR->RdM Take
 | .rp deps pg x => do
  let ds <- wD deps
  .ret { T with xs:=T.xs++[x],deps:=T.deps++ds }
 |.pn=>.ret { T with xs:=T.xs++[.c (.rows z [])] }
 |_=>.no
def sZ (g:Option (aL×Bool))(T:Take):LS->aR->RdM Take
 |.sc,l=>Oa0 g T l
 |.fz nie,l=>rH T nie l
 |.mu d,l=>Kaz T d l
 |.ow d,l=>uV T d l
 |.px b,.px c off=>.ret { T with ptrs:=T.ptrs++[(b,c,off)] }
 | .clo f cs, .clo f' ls =>
  match jT cs ls [] with
  |some l=>bif Nat.beq f f' then .ret { T with ptrs:=T.ptrs++l } else .no
  |none=>.no
 |.rp z,l=>Hag T z l
 |_,_=>.no
def dI (g:Option (aL×Bool)):Take->List LS->List aR->RdM Take
 |T,[],[]=>.ret T
 | T, s :: ss, l :: ls => do
  let T <- sZ g T s l
  dI g T ss ls
 |_,_,_=>.no
def fC (g:Option (aL×Bool)):Take->List (Bool×List LS)->List SV->RdM Take
 |T,[],[]=>.ret T
 | T, (a, ss) :: ps, v :: vs => do
  let ls <- nL (kD a v)
  let T <- dI g T ss ls
  fC g T ps vs
 |_,_,_=>.no
def Bai (T:Take):BS->aR->RdM Take
 |.sc,.sc x=>.ret { T with xs:=T.xs++[x] }
 |.fz nie,l=>rH T nie l
 |.ow d,l=>uV T d l
 |.ot,l=>bif Pac l then .ret T else .no
 |_,_=>.no
def eG:Take->List (BS×BO)->List aR->RdM Take
 |T,[],_=>.ret T
 | T, (s, _) :: ss, l :: ls => do
  let T <- Bai T s l
  eG T ss ls
 |_,_::_,[]=>.no
def Vbo:List (BS×BO)->Bool
 |[]=>true
 |(.ow _,_)::_=>false
 |_::r=>Vbo r
def oH (b:Nat):List (Nat×Nat×Nat)->Option (Nat×Nat)
 |[]=>none
 |(b',c,off)::r=>bif Nat.beq b' b then some (c,off) else oH b r
def eY (ptrs:List (Nat×Nat×Nat)):Take->Nat->List (Bool×List (BS×BO))->RdM Take
 |T,_,[]=>.ret T
 | T, b, (ro, cs) :: r => do
  match oH b ptrs with
  | some (c, off) => do
   match <- rdK (kB c) with
   | some (.box lv ls) => do
    bM (((ro&&Vbo cs)||(!ro&&!lv&&!cs.isEmpty))&&Nat.ble (off+cs.length) ls.length)
    let T <- eG T cs (ls.drop off)
    eY ptrs T (b+1) r
   |_=>.no
  |none=>.no
def iX (w:Bool)(ptrs:List (Nat×Nat×Nat)):Nat->List (Bool×List (BS×BO))->List Nat
 |_,[]=>[]
 |b,(ro,_)::r=>bif ro==w then (match oH b ptrs with | some (c,_)=>c::iX w ptrs (b+1) r | none=>iX w ptrs (b+1) r) else iX w ptrs (b+1) r
def Ua7 (nbx:Nat)(ptrs:List (Nat×Nat×Nat)):List (Nat×Nat×Nat)->Bool
 |[]=>true
 |(b,c,off)::r=>Acw b nbx&&(match oH b ptrs with | some (c',kO)=>Nat.beq c c'&&Nat.beq off kO | none=>false)&&Ua7 nbx ptrs r
def cK:List RT->List Nat
 |[]=>[]
 |.nil::r=>cK r
 |.own s _::r=>s::cK r
 |.mu s _ _ _::r=>s::cK r
def Ya2 (s:Sig)(T:Take):Bool :=
 let wr:=iX false T.ptrs 0 s.boxes
 Ua7 s.boxes.length T.ptrs T.ptrs&&distinct (cK T.rts)&&!(T.deps.any fun d=>has (cK T.rts) d.1)&&distinct wr&&!(meets wr (iX true T.ptrs 0 s.boxes))
def LR.n:LR->Nat
 |.bx cs=>cs.length
 |_=>1
def mZ:List LR->Nat
 |[]=>0
 |s::ss=>s.n+mZ ss
def bxL:List LR->Nat
 |[]=>0
 |.bx _::ss=>1+bxL ss
 |_::ss=>bxL ss
def kU:List (Bool×List LR)->Nat
 |[]=>0
 |(_,ss)::rs=>bxL ss+kU rs
def bL:List (Bool×List LR)->Nat
 |[]=>0
 |(_,ss)::rs=>mZ ss+bL rs
def jU (deps:List (Nat×Nat))(y nr:Nat):BO->aR×List (Nat×aS)×Nat
 |.sc=>(.sc (.v y),[],nr)
 |.fz=>(.sn deps .no false (.v y),[],nr)
 |.ow m=>(.ex nr,[(kR nr,.root (.v y) m 0 .live)],nr+1)
 |.dead=>(.dead,[],nr)
def dR (deps:List (Nat×Nat)):Nat->Nat->List BO->List aR×List (Nat×aS)×Nat
 |_,nr,[]=>([],[],nr)
 | y, nr, s :: ss =>
  let (l,u,nr):=jU deps y nr s
  let (ls,us,nr):=dR deps (y+1) nr ss
  (l::ls,u++us,nr)
def cZ (gd:Bool)(deps:List (Nat×Nat))(nb y nr:Nat):LR->aR×List (Nat×aS)×Nat
 |.sc=>(.sc (.v y),[],nr)
 |.fz=>(.sn deps .no false (.v y),[],nr)
 |.ow m=>bif gd then (.sn deps .no false (.v y),[],nr+1) else (.ex nr,[(kR nr,.root (.v y) m 0 .live)],nr+1)
 |.rp sz=>(.rp deps sz (.v y),[],nr)
 | .bx cs =>
  let (ls,us,nr):=dR deps y nr cs
  (.px nb 0,(kB nb,.box false ls)::us,nr)
def dN (gd:Bool)(deps:List (Nat×Nat))(nb:Nat):Nat->Nat->List LR->List aR×List (Nat×aS)×Nat
 |_,nr,[]=>([],[],nr)
 | y, nr, s :: ss =>
  let (l,u,nr):=cZ gd deps nb y nr s
  let (ls,us,nr):=dN gd deps nb (y+s.n) nr ss
  (l::ls,u++us,nr)
def jF (gd:Bool)(deps:List (Nat×Nat))(nb:Nat):Nat->Nat->List (Bool×List LR)->List (Bool×List aR)×List (Nat×aS)×Nat
 |_,nr,[]=>([],[],nr)
 | y, nr, (a, s) :: ss =>
  let (l,u,nr):=dN gd deps nb y nr s
  let (ls,us,nr):=jF gd deps nb (y+mZ s) nr ss
  ((a,l)::ls,u++us,nr)
def lX (ptrs:List (Nat×Nat×Nat))(deps:List (Nat×Nat)):Nat->Nat->Nat->List (Bool×List (BS×BO))->RdM (List (Nat×aS))
 |_,y,nr,[]=>.ret []
 | b, y, nr, (ro, cs) :: r =>
  bif ro then lX ptrs deps (b+1) y nr r else
  match oH b ptrs with
  | some (c, off) => do
   match <- rdK (kB c) with
   | some (.box false ls) => do
    let (ns,us,nr):=dR deps y nr (cs.map (·.2))
    let rest <- lX ptrs deps (b+1) (y+cs.length) nr r
    .ret ((kB c,.box false (setRange ls off ns))::us++rest)
   |_=>.no
  |none=>.no
def zW:Nat->Nat->List RT->RdM (List Step×List (Nat×aS))
 |_,_,[]=>.ret ([],[])
 | y, nv, .mu r d q X :: rest => do
  match <- rdK (kR r) with
  | some (.root _ m v .live) => do
   let (l,X'):=Nah nv X q (.v y)
   let (ls,us) <- zW (y+1) (nv+bI l) rest
   .ret ((bif Nat.beq (q.length+d) m then [] else [.prim (.dep d) [.v y] 0])++(l++ls),(kR r,.root X' m (v+1) .live)::us)
  |_=>.no
 |y,nv,_::rest=>zW y nv rest
def gJ:List RT->List (Nat×aS)
 |[]=>[]
 |.own r _::rest=>(kR r,.root (.c .hole) 0 0 .gone)::gJ rest
 |_::rest=>gJ rest
def eO:List (Bool×List (BS×BO))->Nat
 |[]=>0
 |(ro,cs)::r=>(bif ro then 0 else cs.length)+eO r
def nR:Nat->List BO->List Step
 |_,[]=>[]
 |y,.ow m::r=>.prim (.dep m) [.v y] 0::nR (y+1) r
 |y,_::r=>nR (y+1) r
def Ta2:Nat->List LR->List Step
 |_,[]=>[]
 |y,.ow m::r=>.prim (.dep m) [.v y] 0::Ta2 (y+1) r
 |y,.bx cs::r=>nR y cs++Ta2 (y+cs.length) r
 |y,_::r=>Ta2 (y+1) r
def Cbf:Nat->List (Bool×List LR)->List Step
 |_,[]=>[]
 |y,(_,ss)::r=>Ta2 y ss++Cbf (y+mZ ss) r
def Cbg:Nat->List RT->List Step
 |_,[]=>[]
 |y,.mu _ d _ _::r=>.prim (.dep d) [.v y] 0::Cbg (y+1) r
 |y,_::r=>Cbg y r
def Yam:Nat->List (Bool×List (BS×BO))->List Step
 |_,[]=>[]
 |y,(ro,cs)::r=>bif ro then Yam y r else nR y (cs.map (·.2))++Yam (y+cs.length) r
def wT:RT->Bool
 |.mu _ _ _ _=>true
 |_=>false
def kP:List (BS×BO)->List aR->RdM (List aL)
 |[],_=>.ret []
 | (s, o) :: ss, l :: ls => do
  let x <- (match s,o,l with
   |.sc,.sc,.sc x=>RdM.ret x
   | .fz _, .fz, l => do
    let r <- yJ l
    RdM.ret r.x
   |_,.dead,l=>bif Pac l then .ret (.c .hole) else .no
   |_,_,_=>.no)
  let r <- kP ss ls
  .ret (x::r)
 |_::_,[]=>.no
def iY (ptrs:List (Nat×Nat×Nat)):Nat->List (Bool×List (BS×BO))->RdM (List aL)
 |_,[]=>.ret []
 | b, (ro, cs) :: r =>
  bif ro then iY ptrs (b+1) r else
  match oH b ptrs with
  | some (c, off) => do
   match <- rdK (kB c) with
   | some (.box false ls) => do
    let l <- kP cs (ls.drop off)
    let m <- iY ptrs (b+1) r
    .ret (l++m)
   |_=>.no
  |none=>.no
def Ba2 (g:Option (aL×Bool)):List (Bool×List aR)->SV
 |[(false,[.sc x])]=>mkS g x
 |[(false,[l])]=>.one l
 |[(true,ls)]=>.agg ls
 |rs=>.tup rs
def Fbu (g:Option (aL×Bool)):SV->Option (aL×Bool)
 |.one (.su _ _)=>none
 |_=>g
def Hbz (nv nb nr:Nat)(o:Oper)(g:Option (aL×Bool))(f:Nat)(vs:List SV):RdM bP:=do
 match Ia8 f vs E.sigs with
 |none=>.no
 | some (key, s) => do
  let T <- fC g Take.empty s.params vs
  let T <- eY T.ptrs T 0 s.boxes
  bM (Ya2 s T&&Nat.ble (kU s.results) 1&&(noG g||(T.rts.isEmpty&&Nat.beq (kU s.results) 0)))
  let nres:=bL s.results
  let nmu:=(T.rts.filter wT).length
  let total:=nres+nmu+eO s.boxes
  let y0:=nv+bI T.lets
  let (rs,us,yg):=jF (!noG g) T.deps nb y0 nr s.results
  let bu <- lX T.ptrs T.deps 0 (y0+nres+nmu) yg s.boxes
  let chk:=bif T.deps.isEmpty then [] else Cbf y0 s.results++Cbg (y0+nres) T.rts++Yam (y0+nres+nmu) s.boxes
  let (ml,mu) <- zW (y0+nres) (y0+total) T.rts
  let olds <- (match g with
   |none=>RdM.ret []
   |some _=>iY T.ptrs 0 s.boxes)
  let v:=Ba2 g rs
  .ret ⟨T.lets++[.call key (T.xs) total olds]++chk++ml,(match o.dst with|some d=>[(kT d,.slot (Fbu g v) v)]|none=>[])++(us++bu++mu++gJ T.rts)⟩
def zU (g:Option (aL×Bool)):List Operand->List TypeId->RdM (List SV)
 |[],_=>.ret []
 | x :: xs, ts => do
  let v <- Pa5 E g (ts.headD 0) x
  let l <- zU g xs ts.tail
  .ret (v::l)
def Sbk:Option IntKind->Bool
 |some k=>Rbt k .u8
 |none=>false
def La4:Operand->Bool
 |.const (.slice none _ _)=>true
 |_=>false
def Vap:Operand->Bool
 |.const (.pointer none)=>true
 |_=>false
def Rbn (nv:Nat)(o:Oper)(g:Option (aL×Bool))(neg:Bool)(t:TypeId)(x y:Operand):RdM bP:=do
 let a <- Pa5 E g t x
 let b <- Pa5 E g t y
 match a,b with
 | .agg ls, .agg ms => do
  let ti <- tiR E t
  match atoms ls,atoms ms with
  | some xs, some ys => do
   bM (ti.cmp&&Nat.beq xs.length ti.size&&Nat.beq ys.length ti.size)
   let d:=match o.dst with|some d=>[(kT d,aS.slot none (mkS g (.v (bif neg then nv+1 else nv))))]|none=>[]
   .ret ⟨[.prim (.eqs (ti.cells.map Far)) (xs++ys) 1]++(bif neg then [.prim .not [.v nv] 1] else []),d⟩
  |_,_=>.no
 | .one l, .one m => do
  let ti <- tiR E t
  match uY g l,uY g m with
  | some p, some q => do
   bif ti.isBool then tV o g nv (.eqb neg) [p,q] else tV o g nv (.bin (bif neg then .neq else .eql)) [p,q]
  |_,_ =>
  let res (p:aU) (x:aL):RdM bP :=
   .ret ⟨[.prim p [x] 1]++(bif neg then [.prim .not [.v nv] 1] else []),match o.dst with|some d=>[(kT d,aS.slot none (mkS g (.v (bif neg then nv+1 else nv))))]|none=>[]⟩
  bif La4 y then do
   bM ti.elem.isSome
   let s <- yJ l
   let r <- res .emp s.x
   .ret (bif s.nie then r else ⟨.prim .ne [s.x] 0::r.lets,r.upd⟩)
  else bif Vap y then do
   bM ti.isPtr
   match l with
   | .rp deps sz x => do
    let _ <- wD deps
    res .emp x
   |.pn=>tV o g nv .id [.c (.bool (!neg))]
   |.px _ _=>tV o g nv .id [.c (.bool neg)]
   |.pe _ _ _ _=>tV o g nv .id [.c (.bool neg)]
   |_=>.no
  else .no
 |_,_=>.no
def Kau:List CK->Option (List D)
 |[]=>some []
 |.sc z::r=>(Kau r).map (z::·)
 |.sl sz::r=>(Kau r).map (.rows sz []::·)
 |_::_=>none
def Kav (ei:TI)(lo:Bool)(s:SlR):Pth×Bool :=
 let one (m:Nat):Pth×Bool:=bif Nat.beq m 1||!lo then (.view,false) else bif Oas ei.cells then (.view,true) else (.no,false)
 match s.own with
 |some (_,_,m,.path [])=>one m
 |some (_,_,m,.view)=>one m
 |_=>(.no,false)
def Ib3 (p:Pth)(sz:Nat)(lo:aL)(s:SlR):Pth :=
 match p,s.own with
 |.no,some (_,_,_,.path [])=>.suf sz lo
 |p,_=>p
def Saj (nv:Nat)(o:Oper)(ei:TI)(l:aR):RdM bP:=do
 let s <- yJ l
 match s.own with
 | some (r, k, m, .suf sz lo) => do
  bM (Nat.beq sz 1&&Nat.beq ei.size 1&&Nat.ble 1 m)
  match <- rdK (kR r) with
  |some (.root X m' bc .live)=>.ret ⟨[.prim (.clr 1) [X,lo] 1],(match o.dst with | some d=>[(kT d,.slot none .dead)] | none=>[])++[(kR r,.root (.v nv) m' (bc+1) .live)]⟩
  |_=>.no
 |_=>.no
def qA (mv dt:Bool)(nv nb nr:Nat)(g:Option (aL×Bool))(o:Oper):RdM bP :=
 match o.op with
 |.move x | .assign x=>do Zaz o g nv (<- Pa5 E g o.type x)
 | .pick c a b => do
  let c <- rdA E g 0 c
  let a <- Lak E g (c,true) o.type a
  let b <- Lak E g (c,false) o.type b
  tV o g nv .pick [c,a,b]
 | .alloc e => do
  let ti <- tiR E e
  bM (noG g)
  tX o g [] (.one (.px nb 0)) [(kB nb,.box false (ti.cells.map fK))]
 | .box e x => do
  let ti <- tiR E e
  let v <- Pa5 E g e x
  match kD ti.agg v with
  | some ls => do
   bM (Nat.beq ls.length ti.size&&noG g&&ls.all Pac)
   tX o g [] (.one (.px nb 0)) [(kB nb,.box false ls)]
  |none=>.no
 | .build t parts => do
  let ti <- tiR E t
  bM ti.agg
  let ps <- Da7 E g (fun i=>(ti.flds.getD i (0,0)).2) parts.toList
  match sI ti.flds E.ti (ti.cells.map fK) ps with
  |some ls=>tX o g [] (.agg ls) []
  |none=>.no
 | .buildSlice t len parts => do
  let st <- tiR E t
  let e <- nL st.elem
  let ti <- tiR E e
  let ps <- Da7 E g (fun _=>e) parts.toList
  bM (Nat.ble (len*ti.size) 4096&&Acw 0 ti.size&&Acw (len*ti.bytes) 4096)
  match Ca5 ti len (Fbv (ti.cells.map fK) len) ps with
  | some ls => do
   let pu <- rW mv dt 0 ls
   bM (noG g||(pu.moves.isEmpty&&pu.holes.isEmpty&&pu.frz.isEmpty))
   let fr <- dS pu.frz
   bM (distinct (pu.moves.map (·.2.1))&&!(pu.moves.any fun z=>has pu.frz z.2.1)&&pu.holes.isEmpty)
   bif noG g then
    tX o g [.prim (.mk ti.size len) pu.xs 1] (.one (.ex nr))
     ((kR nr,.root (.v nv) (min big (pu.depth+1)) 0 .live)::(pu.moves.map fun z=>(kR z.2.1,.root (.c .hole) 0 0 .gone))++fr)
   else tX o g [.prim (.mk ti.size len) pu.xs 1] (.one (.sn [] .no false (.v nv))) []
  |none=>.no
 | .load t a => do
  let ti <- tiR E t
  Ual nv o g ti (<- rdL E g 0 a)
 | .store t a x => do
  let ti <- tiR E t
  let p <- rdL E g 0 a
  let v <- Pa5 E g t x
  match kD ti.agg v with
  |some ls=>Dax nv mv dt o g ti p ls
  |none=>.no
 | .nilCheck x => do
  match <- rdL E g 0 x with
  | .rp deps sz y => do
   let ds <- wD deps
   tX o g [.prim .ne [y] 0] (.one (.pe (.sn ds .no false y) sz (.c (.int .i64 0)) 0)) []
  |.px b off=>tX o g [] (.one (.px b off)) []
  |.pe l sz i off=>tX o g [] (.one (.pe l sz i off)) []
  |.clo f cs=>tX o g [] (.one (.clo f cs)) []
  |.pn=>tX o g [.prim .ne [.c (.rows 0 [])] 0] (.one (.pe (.sn [] .no false (.c (.rows 0 []))) 0 (.c (.int .i64 0)) 0)) []
  |_=>.no
 |.binOp .eql t x y _=>Rbn E nv o g false t x y
 |.binOp .neq t x y _=>Rbn E nv o g true t x y
 | .binOp op t x y ty => do
  let a <- rdA E g t x
  let b <- rdA E g ty y
  tV o g nv (.bin op) [a,b]
 | .unOp op _ x => do
  let a <- rdA E g 0 x
  match op with
  |.not=>tV o g nv .not [a]
  |.neg=>tV o g nv .neg [a]
  |.xor=>tV o g nv .inv [a]
  |_=>.no
 | .convert src dst x => do
  let s <- tiR E src
  let d <- tiR E dst
  match d.ik with
  | some k => do
   bM s.ik.isSome
   let a <- rdA E g src x
   tV o g nv (.conv k) [a]
  | none =>
   bif d.isStr then
    bif s.isStr then do
     let a <- rdA E g src x
     tV o g nv .sid [a]
    else do
     let e <- nL s.elem
     let ei <- tiR E e
     bM (Sbk ei.ik)
     let r <- yJ (<- rdL E g src x)
     tV o g nv .bstr [r.x]
   else .no
 | .makeFunc (.func f) first fu => do
  bM first.isEmpty
  let vs <- zU E g fu.toList []
  let ls <- nL (vB vs)
  tX o g [] (.one (.clo f ls)) []
 | .makeSlice t l c => do
  let st <- tiR E t
  let e <- nL st.elem
  let ti <- tiR E e
  bM (noG g)
  let a <- rdA E g 0 l
  let b <- rdA E g 0 c
  bM (a.beq0 b&&Acw 0 ti.size&&Acw 0 ti.bytes)
  let zs <- nL (Kau ti.cells)
  tX o none [.prim (.make ti.bytes zs) [a] 1] (.one (.ex nr)) [(kR nr,.root (.v nv) big 0 .live)]
 | .slice t x lo hi mx => do
  let ti <- tiR E t
  match mx with
  |some _=>.no
  | none => do
   let l <- rdL E g t x
   let wi <- (match lo with|some a=>rdA E g 0 a|none=>RdM.ret (.c (.int .i64 0)))
   match l with
   | .sc s => do
    bM (ti.isStr&&(noG g||hi.isSome))
    match hi with
    | some h => do
     let h <- rdA E g 0 h
     tV o g nv .ssub [s,wi,h]
    | none =>
     .ret ⟨[.prim .slen [s] 1,.prim .ssub [s,wi,.v nv] 1],match o.dst with|some d=>[(kT d,.slot none (mkS g (.v (nv+1))))]|none=>[]⟩
   | l => do
    bM ti.elem.isSome
    let s <- yJ l
    let ei <- tiR E (ti.elem.getD 0)
    let (p,fl):=Kav ei lo.isSome s
    match hi with
    | some h => do
     let h <- rdA E g 0 h
     match l with
     |.sn _ _ true (.c (.rows z []))=>tX o g [.prim (.sub ei.size fl) [s.x,wi,h] 1] (.one l) []
     |_=>tX o g [.prim (.sub ei.size fl) [s.x,wi,h] 1] (.one (.sn s.deps p false (.v nv))) []
    | none =>
     tX o g [.prim .len [s.x] 1,.prim (.sub ei.size fl) [s.x,wi,.v nv] 1] (.one (.sn s.deps (Ib3 p ei.size wi s) false (.v (nv+1)))) []
 | .fieldAddr t x f => do
  let ti <- tiR E t
  match ti.flds[f]? with
  | some (off, ft) => do
   let fi <- tiR E ft
   bM (Acw 0 fi.size)
   Sai o g off (<- rdL E g 0 x)
  |none=>.no
 | .field t x f => do
  let ti <- tiR E t
  match ti.flds[f]? with
  | some (off, ft) => do
   let fi <- tiR E ft
   match <- Pa5 E g t x with
   | .agg ls => do
    bM (Nat.ble (off+fi.size) ls.length&&Nat.beq ls.length ti.size)
    match Uar fi.agg ((ls.drop off).take fi.size) with
    |some v=>Zaz o g nv v
    |none=>.no
   |_=>.no
  |none=>.no
 | .indexAddr t x i => do
  let ti <- tiR E t
  let e <- nL ti.elem
  let ei <- tiR E e
  let l <- rdL E g t x
  let s <- yJ l
  let a <- rdA E g 0 i
  bM (Acw 0 ei.size)
  tX o g [.prim .inb [s.x,a] 0] (.one (.pe l ei.size a 0)) []
 | .index t x i => do
  let ti <- tiR E t
  bM ti.isStr
  let s <- rdA E g t x
  let a <- rdA E g 0 i
  tV o g nv .sidx [s,a]
 | .extract x i => do
  match <- Pa5 E g 0 x with
  | .tup vs => match vs[i]? with
   | some (a, ls) => match Uar a ls with
    |some v=>Zaz o g nv v
    |none=>.no
   |none=>.no
  |_=>.no
 | .call { callee := .builtin b, args, argTypes } => do
  match b,args.toList with
  | .len, [x] => do
   let t <- nL argTypes[0]?
   let ti <- tiR E t
   let l <- rdL E g t x
   match uY g l with
   | some a => do
    bM ti.isStr
    tV o g nv .slen [a]
   | none => do
    bM ti.elem.isSome
    let s <- yJ l
    tV o g nv .len [s.x]
  | .append, [x, y] => do
   let t <- nL argTypes[0]?
   let ty <- nL argTypes[1]?
   let ti <- tiR E t
   let e <- nL ti.elem
   let ei <- tiR E e
   let yi <- tiR E ty
   bM (yi.elem.isSome&&Acw 0 ei.size&&noG g&&Acw 0 ei.bytes&&Nat.beq argTypes.size 2)
   Mas nv nr mv dt o ei (<- rdL E g t x) (<- rdL E g ty y)
  | .clear, [x] => do
   let t <- nL argTypes[0]?
   let ti <- tiR E t
   let e <- nL ti.elem
   let ei <- tiR E e
   bM (noG g&&Nat.beq argTypes.size 1)
   Saj nv o ei (<- rdL E g t x)
  | .min, xs => do
   let vs <- zU E g xs argTypes.toList
   let as <- nL ((vB vs).bind (Ja0 g))
   tV o g nv .min as
  | .max, xs => do
   let vs <- zU E g xs argTypes.toList
   let as <- nL ((vB vs).bind (Ja0 g))
   tV o g nv .max as
  |_,_=>.no
 | .call { callee := .value f, args, argTypes } => do
  match <- rdL E g 0 f with
  | .clo fn fu => do
   let vs <- zU E g args.toList argTypes.toList
   Hbz E nv nb nr o g fn (vs++fu.map .one)
  |_=>.no
 |_=>.no
end
def kG {α:Type}(n:Nat):Option α:=none
structure St where
 tr:Tr aS
 nv:Nat
 nb:Nat
 nr:Nat
 nt:Nat
 deriving Inhabited
def vJ (nt nb nr k:Nat):Bool :=
 bif Nat.beq (k % 3) 0 then Acw (k / 3) nt else bif Nat.beq (k % 3) 1 then Acw (k / 3) nb else Acw (k / 3) nr
def St.get (s:St)(k:Nat):Option aS:=bif vJ s.nt s.nb s.nr k then s.tr.get k else none
def bB (n:Nat):aL->Bool
 |.v i=>Acw i n
 |.c _=>true
def Da1 (n:Nat):Step->Bool
 |.prim _ xs _=>xs.all (bB n)
 |.call _ xs k olds=>xs.all (bB n)&&olds.all (bB n)&&Nat.ble olds.length k
def eP:Nat->List Step->Bool
 |_,[]=>true
 |n,s::r=>Da1 n s&&eP (n+s.n) r
def oW (n:Nat):Option (aL×Bool)->Bool
 |none=>true
 |some (x,_)=>bB n x
def St.put (s:St)(k:Nat)(c:Option aS):St:={ s with tr:=s.tr.set 16 k c }
def St.puts (s:St):List (Nat×aS)->St
 |[]=>s
 |(k,c)::r=>(s.put k (some c)).puts r
def Ma9 (ops:List Oper)(o:Oper):RdM (Option (aL×Bool)) :=
 match o.guard with
 |none=>.ret none
 | some (j, want) =>
  match (ops[j]?).bind (·.dst) with
  | some d => .rd (kT d) fun
   |some (.slot none (.one (.sc x)))=>.ret (some (x,want))
   |some (.slot none (.one (.su _ x)))=>.ret (some (x,want))
   |_=>.no
  |none=>.no
def bW:Nat:=16
def zH (n nb nr k:Nat):Bool :=
 bif Nat.beq (k % 3) 0 then Acw (k / 3) n else bif Nat.beq (k % 3) 1 then Nat.ble (k / 3) nb else Acw (k / 3) (nr+bW)
def Xan:List (Nat×aS)->Nat->Option aS
 |[],_=>none
 | (k', c) :: r, k => match Xan r k with
  |some d=>some d
  |none=>bif Nat.beq k' k then some c else none
def RdM.over {α:Type}(u:List (Nat×aS)):RdM α->RdM α
 |.ret a=>.ret a
 |.no=>.no
 | .rd k f => match Xan u k with
  |some c=>(f (some c)).over u
  |none=>.rd k fun c=>(f c).over u
def Bam:Bool->Op->Option Nat
 |true,.store _ _ (.tmp t)=>some t
 | true, .buildSlice _ _ parts => match parts.toList with
  |[(_,.tmp t)]=>some t
  |_=>none
 |_,_=>none
def Nak:Bool->Oper->Option Nat
 | true, o => match o.op with
  |.load _ _=>o.dst
  |_=>none
 |false,_=>none
def Ka4 (E:Env)(nv nr t:Nat):RdM (Option (List Step×List (Nat×aS))):=do
 match <- rdK (kT t) with
 | some (.slot none (.one (.sn deps (.path (p :: ps)) nie x))) => do
  let s <- yJ (.sn deps (.path (p::ps)) nie x)
  match s.own with
  | some (r, k, m, .path (q :: qs)) =>
   bif Nat.ble (qs.length+2) m&&Acw t E.ntmps then do
    match <- rdK (kR r) with
    | some (.root X m' bc .live) =>
     let (l,X'):=Nah nv X (q::qs) (.c .hole)
     .ret (some (l,[(kT t,.slot none (.one (.ex nr))),(kR nr,.root s.x (m-(qs.length+1)) 0 .live),(kR r,.root X' m (bc+1) .live)]))
    |_=>.ret none
   else .ret none
  |_=>.ret none
 |_=>.ret none
def Wav (E:Env)(mv dt:Bool)(nv nb nr:Nat)(g:Option (aL×Bool))(o:Oper):RdM bP :=
 match Bam (dt&&noG g) o.op with
 | none => match Nak (dt && noG g && !mv) o with
  |none=>qA E mv dt nv nb nr g o
  | some t => do
   let r <- qA E mv dt nv nb nr g o
   match <- (Ka4 E (nv+bI r.lets) nr t).over r.upd with
   |some (l,u)=>.ret ⟨r.lets++l,r.upd++u⟩
   |none=>.ret r
 | some t => do
  match <- Ka4 E nv nr t with
  | some (l, u) => do
   let r <- (qA E mv false (nv+bI l) nb (nr+1) g o).over u
   .ret ⟨l++r.lets,u++r.upd⟩
  |none=>qA E mv false nv nb nr g o
def lJ (E:Env)(ops:List Oper)(mv dt:Bool)(nv nb nr:Nat)(o:Oper):RdM (Option (aL×Bool)×bP):=do
 let g <- Ma9 ops o
 bM (match o.dst with|some d=>Acw d E.ntmps|none=>true)
 let r <- Wav E mv dt nv nb nr g o
 bM (r.upd.all fun x=>zH E.ntmps nb nr x.1)
 .ret (g,r)
structure OpI where
 g:Option (aL×Bool)
 res:bP
 log:List Nat
 nb:Nat
 nr:Nat
 deriving Inhabited
def nI (t:Tr aS)(r:Nat):Nat->Bool
 |0=>true
 |n+1=>(t.get (kR r)).isNone&&nI t (r+1) n
def Ba9 (n:Nat):Pth->Bool
 |.path p=>p.all fun x=>bB n x.1
 |.suf _ x=>bB n x
 |_=>true
mutual
def aR.inScope (n:Nat):aR->Bool
 |.sc x=>bB n x
 |.su g x=>bB n x&&bB n g.1
 |.sn _ p _ x=>bB n x&&Ba9 n p
 |.pe l _ i _=>l.inScope n&&bB n i
 |.rp _ _ x=>bB n x
 |.clo _ l=>bF n l
 |_=>true
def bF (n:Nat):List aR->Bool
 |[]=>true
 |a::r=>a.inScope n&&bF n r
end
def yE (n:Nat):SV->Bool
 |.dead=>true
 |.one l=>l.inScope n
 |.agg ls=>bF n ls
 |.tup vs=>vs.all fun v=>bF n v.2
def bY (n:Nat):aS->Bool
 |.slot g v=>oW n g&&yE n v
 |.box _ ls=>bF n ls
 |.root x _ _ _=>bB n x
def Fb2 (s:St)(g:Option (aL×Bool))(r:bP):Bool :=
 (s.tr.get (kB s.nb)).isNone&&nI s.tr s.nr bW&&oW s.nv g&&eP s.nv r.lets&&r.upd.all fun x=>bY (s.nv+bI r.lets) x.2
def Kb6:List (Nat×aS)->Nat->Nat
 |[],n=>n
 |x::r,n=>Kb6 r (bif Nat.beq (x.1 % 3) 2&&Nat.ble n (x.1 / 3) then x.1 / 3+1 else n)
def Ta3 (draw:Bool)(n:Nat)(u:List (Nat×aS)):Nat:=bif draw then n+bW else Kb6 u n
def Oaz (t:Tr aS)(lo:Nat):Nat->Nat
 |0=>lo
 |n+1=>bif (t.get (kR (lo+n))).isNone then Oaz t lo n else lo+n+1
def trimS (draw:Bool)(lo:Nat)(s:St):St:=bif draw&&Nat.ble lo s.nr then { s with nr:=Oaz s.tr lo (s.nr-lo) } else s
def Sbl (l:List (Nat×Nat))(r i:Nat):Bool:=l.any fun p=>Nat.beq p.1 r&&Nat.beq p.2 i
def Ya4 (E:Env)(draw:Bool)(kn:Nat)(ops:List Oper):Nat->List Oper->St->List OpI->Sum (List OpI×St) (Nat×St×List OpI)
 |_,[],s,acc=>.inl (acc.reverse,s)
 | i, o :: os, s, acc =>
  let fl:=Sbl E.nomv kn i
  match (lJ E ops (xor (!E.freezeEx) fl) (xor E.moveSn fl) s.nv s.nb s.nr o).run s.get with
  | some ((g, r), log) =>
   bif !(Fb2 s g r) then .inr (i,s,acc) else Ya4 E draw kn ops (i+1) os { (s.puts r.upd) with nv:=s.nv+bI r.lets,nb:=s.nb+1,nr:=Ta3 draw s.nr r.upd } ({ g,res:=r,log,nb:=s.nb,nr:=s.nr }::acc)
  |none=>.inr (i,s,acc)
def Aai (acc:List Nat):List Edge->Nat->Nat
 |[],m=>m
 |e::es,m=>Aai acc es (bif Region.binds .any e then (m ||| 2 ^ e.on) ||| acc.getD e.on 0 else m)
def waits:List Oper->List Nat->List Nat
 |[],acc=>acc
 |o::os,acc=>waits os (acc++[Aai acc o.after.toList 0])
def Ca9:List Oper->Nat->Bool
 |[],_=>true
 |o::os,i=>(o.after.toList.all fun e=>!(Region.binds .any e)||Acw e.on i)&&Ca9 os (i+1)
def Nax (a:OpI)(k:Nat):Bool:=bif Nat.beq (k % 3) 1 then Nat.beq (k / 3) a.nb else bif Nat.beq (k % 3) 2 then Nat.ble a.nr (k / 3)&&Acw (k / 3) (a.nr+bW) else false
def qP (a b:OpI):Bool :=
 let wa:=a.res.upd.map (·.1)
 let wb:=b.res.upd.map (·.1)
 !(meets wa b.log)&&!(meets wa wb)&&!(meets a.log wb)&&!(wb.any (Nax a))
def Cax (a:OpI)(i:Nat):List OpI->List Nat->Bool
 |[],_=>true
 |b::bs,w::ws=>(Bc2 w i||qP a b)&&Cax a i bs ws
 |_::_,[]=>false
def wK:List OpI->List Nat->Nat->Bool
 |[],_,_=>true
 |a::as,ws,i=>Cax a i as ws.tail&&wK as ws.tail (i+1)
def oD (g:Option (aL×Bool))(k:Tm St):List Step->Tm St
 |[]=>k
 |.prim p xs n::r=>.lt g p xs n (oD g k r)
 |.call f xs n olds::r=>.call g f xs n olds (oD g k r)
def Ham (k:Tm St):List OpI->Tm St
 |[]=>k
 |a::r=>oD a.g (Ham k r) a.res.lets
def Mar (E:Env)(p7:Bool)(kn:Nat)(ops:List Oper)(draw:Bool)(s:St):Tm St :=
 match Ya4 E draw kn ops 0 ops s [] with
 | .inl (is, s') =>
  bif !draw||(Ca9 ops 0&&wK is (waits ops []) 0) then Ham (.leaf .fall [] (trimS draw s.nr s')) is
  else bif p7 then .leaf (.exit (1000000+kn*1000+999)) [] s else .stuck
 |.inr (i,s',is)=>bif p7 then .leaf (.exit (1000000+kn*1000+i)) [] s' else .stuck
def Za3:Operand->Nat
 |.tmp t=>2 ^ t
 |_=>0
def Fb0 (o:Oper):Nat:=o.op.operands.toList.foldl (fun m x=>m ||| Za3 x) 0
def Abg:List Oper->Nat->Nat
 |[],l=>l
 | o :: os, l =>
  let m:=Abg os l
  let m:=match o.dst,o.guard with
   |some d,none=>bif Bc2 m d then m-2 ^ d else m
   |_,_=>m
  m ||| Fb0 o
def Va1:List (Nat×Nat)->Nat->Nat
 |[],_=>0
 |(i,m)::r,j=>bif Nat.beq i j then m else Va1 r j
def Kaf:Code->List (Nat×Nat)->Nat->Nat->Nat
 |.region _ ops _,_,_,l=>Abg ops.toList l
 |.seq a b,ex,rb,l=>Kaf a ex rb (Kaf b ex rb l)
 |.cond c a b,ex,rb,l=>Za3 c ||| Kaf a ex rb l ||| Kaf b ex rb l
 |.block id b,ex,rb,l=>Kaf b ((id,l)::ex) rb l
 |.loop b,ex,rb,_=>Kaf b ex rb (Kaf b ex rb (Kaf b ex rb 0))
 |.exit id,ex,_,_=>Va1 ex id
 |.ret,_,rb,_=>rb
 |_,_,_,l=>l
inductive Form where
 |sc
 |nil (z:Nat)
 |ex (m:Nat)
 |sn
 |pn
 |rp (z:Nat)
 |keep (l:aR)
 |alias (i:Nat)
 |dead
 deriving Inhabited
def Lan:List (aL×Nat×Nat)->List (aL×Nat×Nat)->Bool
 |[],[]=>true
 |(a,b,c)::r,(a',b',c')::r'=>a.beq0 a'&&Nat.beq b b'&&Nat.beq c c'&&Lan r r'
 |_,_=>false
def Pth.beq0:Pth->Pth->Bool
 |.no,.no=>true
 |.view,.view=>true
 |.path p,.path q=>Lan p q
 |.suf a x,.suf b y=>Nat.beq a b&&x.beq0 y
 |_,_=>false
def xJ:List (Nat×Nat)->List (Nat×Nat)->Bool
 |[],[]=>true
 |(a,b)::r,(a',b')::r'=>Nat.beq a a'&&Nat.beq b b'&&xJ r r'
 |_,_=>false
mutual
def aR.beq0:aR->aR->Bool
 |.dead,.dead=>true
 |.sc x,.sc y=>x.beq0 y
 |.su g x,.su h y=>g.1.beq0 h.1&&(g.2==h.2)&&x.beq0 y
 |.ex r,.ex r'=>Nat.beq r r'
 |.sn d p n x,.sn d' p' n' x'=>xJ d d'&&p.beq0 p'&&(n==n')&&x.beq0 x'
 |.px b o,.px b' o'=>Nat.beq b b'&&Nat.beq o o'
 |.pe l s i o,.pe l' s' i' o'=>l.beq0 l'&&Nat.beq s s'&&i.beq0 i'&&Nat.beq o o'
 |.rp d s x,.rp d' s' x'=>xJ d d'&&Nat.beq s s'&&x.beq0 x'
 |.pn,.pn=>true
 |.clo f l,.clo f' l'=>Nat.beq f f'&&rZ l l'
 |_,_=>false
def rZ:List aR->List aR->Bool
 |[],[]=>true
 |a::r,b::s=>a.beq0 b&&rZ r s
 |_,_=>false
end
def Ba1 (a b:RSt):Bool:=decide (a=b)
def Ua3 (nv:Nat)(r:Nat):List St->Bool
 |[]=>true
 | s :: rest => match s.get (kR r) with
  | some (.root x m v st) => bB nv x && rest.all fun s' => match s'.get (kR r) with
   |some (.root x' m' v' u9)=>x.beq0 x'&&Nat.beq m m'&&Nat.beq v v'&&Ba1 st u9
   |_=>false
  |_=>false
mutual
def Cao:aR->List Nat
 |.ex r=>[r]
 |.sn d _ _ _=>d.map (·.1)
 |.rp d _ _=>d.map (·.1)
 |.pe l _ _ _=>Cao l
 |.clo _ l=>Iaj l
 |_=>[]
def Iaj:List aR->List Nat
 |[]=>[]
 |a::r=>Cao a++Iaj r
end
def Bbh (s:St):aR->Form
 |.sc _=>.sc
 | .ex r => match s.get (kR r) with
  |some (.root _ m _ .live)=>.ex m
  |some (.root _ _ _ .frozen)=>.sn
  |_=>.dead
 |.sn _ _ true (.c (.rows z []))=>.nil z
 | .sn d p _ _ => match p, d with
  | .view, [(r, k)] => match s.get (kR r) with
   |some (.root _ m v .live)=>bif Nat.beq v k then .ex m else .dead
   |some (.root _ _ _ .frozen)=>.sn
   |_=>.dead
  |_,_=>.sn
 |.pn=>.pn
 |.rp _ z _=>.rp z
 |.pe _ z _ o=>bif Nat.beq o 0 then .rp z else .dead
 |_=>.dead
def Nap:Form->Form->Form
 |.sc,.sc=>.sc
 |.nil z,.nil _=>.nil z
 |.nil _,.ex m=>.ex m
 |.ex m,.nil _=>.ex m
 |.ex m,.ex m'=>.ex (min m m')
 |.nil _,.sn=>.sn
 |.sn,.nil _=>.sn
 |.ex _,.sn=>.sn
 |.sn,.ex _=>.sn
 |.sn,.sn=>.sn
 |.pn,.pn=>.pn
 |.pn,.rp z=>.rp z
 |.rp z,.pn=>.rp z
 |.rp z,.rp _=>.rp z
 |_,_=>.dead
def wS (k j:Nat)(s:St):aR :=
 match s.get k with
 |some (.slot none v)=>(tH v).getD j .dead
 |some (.box _ ls)=>ls.getD j .dead
 |_=>.dead
def Obk (nv k j:Nat)(ji:List St):Form :=
 match ji with
 |[]=>.dead
 | s :: rest =>
  let l:=wS k j s
  bif l.inScope nv&&rest.all (fun s'=>l.beq0 (wS k j s'))&&(Cao l).all (fun r=>Ua3 nv r (s::rest)) then .keep l
  else rest.foldl (fun f s'=>Nap f (Bbh s' (wS k j s'))) (Bbh s l)
def Obf:Form->Bool
 |.keep _=>true
 |_=>false
structure Pos where
 k:Nat
 j:Nat
 f:Form
 deriving Inhabited
def Zah:Option aS->Option aS->Bool
 |some (.slot none (.one _)),some (.slot none (.one _))=>true
 |some (.slot none (.agg a)),some (.slot none (.agg b))=>Nat.beq a.length b.length
 |some (.box r a),some (.box r' b)=>(r==r')&&Nat.beq a.length b.length
 |_,_=>false
def Kbf:Option aS->Nat
 |some (.slot none v)=>(tH v).length
 |some (.box _ ls)=>ls.length
 |_=>0
def Jbs (old:List Pos)(k j:Nat):Option Form:=(old.find? fun p=>Nat.beq p.k k&&Nat.beq p.j j).map (·.f)
def Ibl (s:St)(k j:Nat):Option Nat :=
 match wS k j s with
 |.ex r=>some r
 |_=>none
def Obg:Form->Bool
 |.ex _=>true
 |_=>false
def aliasOf (ji:List St)(k j:Nat):List Pos->Nat->Option Nat
 |[],_=>none
 | p :: ps, i =>
  bif Obg p.f&&ji.all fun s=>match Ibl s k j,Ibl s p.k p.j with
   |some r,some r'=>Nat.beq r r'
   |_,_=>false
  then some i else aliasOf ji k j ps (i+1)
def Za6:Form->Form
 |.alias _=>.ex 1000
 |f=>f
def Zaw (nv:Nat)(ji:List St)(old:List Pos)(k:Nat):Nat->Nat->List Pos->List Pos
 |0,_,acc=>acc
 | n + 1, j, acc =>
  let f:=Obk nv k j ji
  let f:=match Jbs old k j,f with
   | some f0, .keep l => match ji with
    |s::_=>Nap (Za6 f0) (Bbh s l)
    |[]=>.dead
   |some f0,f=>Nap (Za6 f0) f
   |none,f=>f
  let f:=bif Obg f then (match aliasOf ji k j acc 0 with|some i=>.alias i|none=>f) else f
  Zaw nv ji old k n (j+1) (bif Obf f then acc else acc++[⟨k,j,f⟩])
def Jbz (ji:List St)(k:Nat):Bool :=
 match ji with
 |s::rest=>rest.all fun s'=>Zah (s.get k) (s'.get k)&&(match s.get k with | some (.slot (some _) _)=>false | some (.slot _ (.tup _))=>false | some (.slot _ .dead)=>false | some _=>true | none=>false)
 |[]=>false
def Jby (ji:List St)(k:Nat):Bool :=
 match ji with
 |[s]=>Zah (s.get k) (s.get k)
 |_=>Jbz ji k
def range (a:Nat):Nat->List Nat
 |0=>[]
 |n+1=>a::range (a+1) n
def Nam (E:Env)(nb:Nat)(live:Nat)(ji:List St):List Nat :=
 ((range E.ntmps E.ngh).filter fun t=>Jby ji (kT t)).map kT++((range 0 E.ntmps).filter fun t=>Bc2 live t&&Jby ji (kT t)).map kT++((range 0 nb).filter fun b=>Jby ji (kB b)).map kB
def Qac (nv:Nat)(ji:List St)(old:List Pos):List Nat->List Pos->List Pos
  |[],acc=>acc
  | k :: ks, acc => Qac nv ji old ks (match ji with
     |s::_=>Zaw nv ji old k (Kbf (s.get k)) 0 acc
     |[]=>acc)
def Ibd (nv:Nat)(ji:List St)(old:List Pos)(ks:List Nat):List Pos:=Qac nv ji old ks []
def Ib7 (c:aS)(j:Nat)(l:aR):aS :=
 match c with
 |.slot g (.one _)=>.slot g (match l with | .dead=>.dead | l=>.one l)
 |.slot g (.agg ls)=>.slot g (.agg (ls.set j l))
 |.box ro ls=>.box ro (ls.set j l)
 |c=>c
def kK (nv nr:Nat):List Pos->Nat->St->St
 |[],_,s=>s
 | p :: ps, i, s =>
  let put (l:aR) (s:St):St:=match s.get p.k with
   |some c=>s.put p.k (some (Ib7 c p.j l))
   |none=>s
  match p.f with
  |.sc=>kK nv nr ps (i+1) (put (.sc (.v (nv+i))) s)
  |.ex m=>kK nv nr ps (i+1) ((put (.ex (nr+i)) s).put (kR (nr+i)) (some (.root (.v (nv+i)) m 0 .live)))
  |.sn=>kK nv nr ps (i+1) (put (.sn [] .no false (.v (nv+i))) s)
  |.nil z=>kK nv nr ps (i+1) (put (.sn [] .no true (.v (nv+i))) s)
  |.rp z=>kK nv nr ps (i+1) (put (.rp [] z (.v (nv+i))) s)
  |.pn=>kK nv nr ps (i+1) (put .pn s)
  |.alias a=>kK nv nr ps (i+1) (put (.ex (nr+a)) s)
  |_=>kK nv nr ps (i+1) (put .dead s)
def Gbn (s:St)(k j:Nat):List Nat :=
 match wS k j s with
 |.ex r=>[r]
 |.sn [(r,_)] .view _ _=>[r]
 |_=>[]
def Yb3:Form->Bool
 |.sn=>true
 |.rp _=>true
 |_=>false
def Yb4:Form->Bool
 |.ex _=>true
 |.alias _=>true
 |_=>false
def Qaa (nv:Nat)(a8:List Pos)(ji:List St):List Nat->St->St
 |[],s=>s
 | r :: rs, s =>
  let taken:=a8.any fun p=>Yb4 p.f&&ji.any fun s'=>has (Gbn s' p.k p.j) r
  let froz:=a8.any fun p=>Yb3 p.f&&ji.any fun s'=>has (Cao (wS p.k p.j s')) r
  let sameX:=match ji with
   | s0 :: rest => match s0.get (kR r) with
    | some (.root x m v st) => bB nv x && !(Ba1 st .gone) && rest.all fun s' => match s'.get (kR r) with
     |some (.root x' _ _ u9)=>x.beq0 x'&&!(Ba1 u9 .gone)
     |_=>false
    |_=>false
   |[]=>false
  let c:Option aS :=
   bif taken then some (.root (.c .hole) 0 0 .gone)
   else bif Ua3 nv r ji&&!froz then (match ji with|s0::_=>s0.get (kR r)|[]=>none)
   else bif sameX then (match ji with|s0::_=>(match s0.get (kR r) with|some (.root x m v _)=>some (.root x m v .frozen)|c=>c)|[]=>none)
   else some (.root (.c .hole) 0 0 .gone)
  Qaa nv a8 ji rs (s.put (kR r) c)
def Nae (s:St):List Nat->Tr aS->Tr aS
 |[],t=>t
 |k::ks,t=>Nae s ks (t.set 16 k (s.get k))
def template (E:Env)(nv nb nr fS:Nat)(ji:List St)(keys:List Nat)(a8:List Pos):St :=
 match ji with
 |[]=>⟨.nil,nv,nb,nr,0⟩
 | s :: _ =>
  let s1:St:=⟨Nae s keys .nil,nv+a8.length,nb,fS+a8.length,s.nt⟩
  kK nv fS a8 0 (Qaa nv a8 ji (range 0 nr) s1)
def Vbn (j:Nat)(l:aR):aS->Option aS
 |.slot none (.one _)=>bif Nat.beq j 0 then some (.slot none (.one l)) else none
 |.slot none (.agg ls)=>some (.slot none (.agg (ls.set j l)))
 |.box ro ls=>some (.box ro (ls.set j l))
 |_=>none
def putAt (k j:Nat)(l:aR)(s:St):St :=
 match (s.get k).bind (Vbn j l) with
 |some c=>s.put k (some c)
 |none=>s
def Ma8 (E:Env)(p:Pos)(nr i:Nat)(s:St):Option (List Step×St×aL) :=
 let put (l:aR) (s:St):St:=putAt p.k p.j l s
 let rNew:=nr+i
 match p.f,wS p.k p.j s with
 |.sc,.sc x=>some ([],s,x)
 | .alias a, .ex r => match s.get (kR r) with
  |some (.root _ _ _ (.fwd r'))=>bif Nat.beq r' (nr+a) then some ([],put (.ex (nr+a)) s,.c .undef) else kG 5001
  |_=>kG 5002
 |.nil z,.sn [] .no true x=>some ([],s,x)
 | .ex m, .ex r => match s.get (kR r) with
  |some (.root x m' v .live)=>bif Nat.ble m m' then some ([],put (.ex rNew) (s.puts [(kR r,.root (.c .hole) 0 0 (.fwd rNew)),(kR rNew,.root x m 0 .live)]),x) else kG 5003
  |_=>kG 5004
 |.ex m,.sn [] _ true (.c (.rows z []))=>some ([],put (.ex rNew) (s.puts [(kR rNew,.root (.c (.rows z [])) m 0 .live)]),.c (.rows z []))
 | .ex m, .sn [(r, k)] .view _ x => match s.get (kR r) with
  |some (.root _ m' v .live)=>bif Nat.ble m m'&&Nat.beq v k then some ([],put (.ex rNew) (s.puts [(kR r,.root (.c .hole) 0 0 .gone),(kR rNew,.root x m 0 .live)]),x) else kG 5005
  |_=>kG 5006
 | .sn, l =>
  match ((do let s <- yJ l;let fr <- dS (s.deps.map (·.1));RdM.ret (s.x,fr):RdM (aL×List (Nat×aS)))).eval s.get with
  |some (x,fr)=>some ([],put (.sn [] .no false x) (s.puts fr),x)
  |none=>kG 5007
 |.rp z,.pn=>some ([],put (.rp [] z (.c (.rows z []))) s,.c (.rows z []))
 | .rp z, .rp deps z' x =>
  match ((do let d <- wD deps;dS (d.map (·.1)):RdM (List (Nat×aS)))).eval s.get with
  |some fr=>some ([],put (.rp [] z x) (s.puts fr),x)
  |none=>kG 5008
 | .rp z, .pe l z' i 0 =>
  match ((do let s <- yJ l;let fr <- dS (s.deps.map (·.1));RdM.ret (s.x,fr):RdM (aL×List (Nat×aS)))).eval s.get with
  |some (x,fr)=>some ([.prim (.one z') [x,i] 1],{ (put (.rp [] z (.v s.nv)) (s.puts fr)) with nv:=s.nv+1 },.v s.nv)
  |none=>kG 5009
 |.pn,.pn=>some ([],s,.c .undef)
 |.dead,_=>some ([],s,.c .undef)
 |_,_=>kG (4000000+1000*p.k+p.j)
def kC (E:Env)(nr:Nat):List Pos->Nat->St->Option (List Step×St×List aL)
 |[],_,s=>some ([],s,[])
 | p :: ps, i, s => do
  let (l,s,x) <- Ma8 E p nr i s
  let (l',s,xs) <- kC E nr ps (i+1) s
  some (l++l',s,x::xs)
def iE (τ:St):List Nat->St->Option St
 |[],s=>some s
 | r :: rs, s =>
  match τ.get (kR r),s.get (kR r) with
  |some (.root _ _ _ .frozen),some (.root x m v .live)=>iE τ rs (s.put (kR r) (some (.root x m v .frozen)))
  |_,_=>iE τ rs s
def Pab (n:Nat)(xs:List aL):aL->aL
 |.v i=>bif Acw i n then .v i else xs.getD (i-n) (.c .hole)
 |.c d=>.c d
def Wbm (n:Nat)(xs:List aL):Pth->Pth
 |.path p=>.path (p.map fun x=>(Pab n xs x.1,x.2))
 |.suf sz lo=>.suf sz (Pab n xs lo)
 |p=>p
def Uas (b9 ee r:Nat):Nat:=bif Nat.ble b9 r then ee+(r-b9) else r
mutual
def aR.sub (n:Nat)(xs:List aL)(b9 ee:Nat):aR->aR
 |.sc x=>.sc (Pab n xs x)
 |.su g x=>.su (Pab n xs g.1,g.2) (Pab n xs x)
 |.ex r=>.ex (Uas b9 ee r)
 |.sn d p e x=>.sn d (Wbm n xs p) e (Pab n xs x)
 |.pe l s i o=>.pe (l.sub n xs b9 ee) s (Pab n xs i) o
 |.rp d s x=>.rp d s (Pab n xs x)
 |.clo f l=>.clo f (iF n xs b9 ee l)
 |l=>l
def iF (n:Nat)(xs:List aL)(b9 ee:Nat):List aR->List aR
 |[]=>[]
 |a::r=>a.sub n xs b9 ee::iF n xs b9 ee r
end
def yS (a b:aR):Bool :=
 match a with
 |.dead=>Pac b
 | .sn d .no false x => match b with
  |.sn d' _ _ x'=>xJ d d'&&x.beq0 x'
  |_=>false
 |a=>a.beq0 b
def eH:List aR->List aR->Bool
 |[],[]=>true
 |a::r,b::s=>yS a b&&eH r s
 |_,_=>false
def bZ (n:Nat)(xs:List aL)(b9 ee:Nat):Option aS->Option aS->Bool
 |none,_=>true
 |some (.slot none .dead),_=>true
 |some (.slot none (.one a)),some (.slot none (.one b))=>yS (a.sub n xs b9 ee) b
 |some (.slot none (.agg a)),some (.slot none (.agg b))=>eH (iF n xs b9 ee a) b
 |some (.box r a),some (.box r' b)=>(r==r')&&eH (iF n xs b9 ee a) b
 |some (.root x m v .gone),_=>true
 |some (.root x m v st),some (.root x' m' v' u9)=>Ba1 st u9&&Nat.beq m m'&&Nat.beq v v'&&(Pab n xs x).beq0 x'
 |_,_=>false
def Ca0 (n:Nat)(xs:List aL)(b9 ee:Nat)(τ s:St):List Nat->Bool
 |[]=>true
 |k::ks=>bZ n xs b9 ee (τ.get k) (s.get k)&&Ca0 n xs b9 ee τ s ks
def Ca2 (n:Nat)(xs:List aL)(b9 ee:Nat)(τ s:St):List Nat->Bool
 |[]=>true
 |r::rs=>bZ n xs b9 ee (τ.get (kR r)) (s.get (kR (Uas b9 ee r)))&&Ca2 n xs b9 ee τ s rs
def nE (E:Env)(n:Nat)(xs:List aL)(eK b9 ee len:Nat)(τ s:St):Bool :=
 Ca0 n xs b9 ee τ s ((range 0 (E.ntmps+E.ngh)).map kT++(range 0 τ.nb).map kB)&&Ca2 n xs b9 ee τ s (range 0 eK++range b9 len)
def lH (b c k:Nat):Nat:=bif Nat.beq k b then c else bif Nat.beq k c then b else k
mutual
def aR.swap (b c:Nat):aR->aR
 |.px k o=>.px (lH b c k) o
 |.pe l s i o=>.pe (l.swap b c) s i o
 |.clo f l=>.clo f (bX b c l)
 |l=>l
def bX (b c:Nat):List aR->List aR
 |[]=>[]
 |a::r=>a.swap b c::bX b c r
end
def Ya6 (b c:Nat):SV->SV
 |.dead=>.dead
 |.one l=>.one (l.swap b c)
 |.agg ls=>.agg (bX b c ls)
 |.tup ts=>.tup (ts.map fun t=>(t.1,bX b c t.2))
def nP (b c:Nat):aS->aS
 |.slot g v=>.slot g (Ya6 b c v)
 |.box ro ls=>.box ro (bX b c ls)
 |.root x m v st=>.root x m v st
def mM (b c k:Nat):Nat:=bif Nat.beq (k % 3) 1 then kB (lH b c (k / 3)) else k
def Pa4 (f:Nat->Option aS):List Nat->Tr aS->Tr aS
 |[],t=>t
 |k::ks,t=>Pa4 f ks (t.set 16 k (f k))
def St.swap (s:St)(b c:Nat):St:={ s with tr:=Pa4 (fun k=>(s.get (mM b c k)).map (nP b c)) ((range 0 s.nt).map kT++(range 0 s.nb).map kB++(range 0 s.nr).map kR) s.tr }
def Sa6 (E:Env)(τ:St):List Nat->St->St
 |[],s=>s
 | t :: ts, s => Sa6 E τ ts (match τ.get (kT t), s.get (kT t) with
  | some (.slot none (.one (.px b 0))), some (.slot none (.one (.px c 0))) =>
   bif !(Nat.beq b c)&&Nat.ble E.nbx b&&Nat.ble E.nbx c&&Acw b s.nb&&Acw c s.nb then s.swap b c else s
  |_,_=>s)
def Jap (E:Env)(n eK b9:Nat)(a8:List Pos)(τ:St)(kind:Kind)(s:St):Option (Tm St):=do
 let (ls,s1,xs) <- kC E s.nr a8 0 { s with nr:=s.nr+a8.length }
 let s2 <- iE τ (range 0 eK) s1
 bif nE E n xs eK b9 s.nr a8.length τ s2&&nI s.tr s.nr a8.length&&Nat.ble eK s.nr&&eP s.nv ls&&xs.all (bB (s.nv+bI ls)) then some (oD none (.leaf kind xs s2) ls) else kG 1
def coerce (E:Env)(n eK b9:Nat)(a8:List Pos)(τ:St)(kind:Kind)(s:St):Option (Tm St):=Jap E n eK b9 a8 τ kind (Sa6 E τ E.pxs s)
def Tm.no {β:Type}(f:Kind->Bool):Tm β->Bool
 |.leaf k _ _=>!(f k)
 |.stuck=>true
 |.lt _ _ _ _ k=>k.no f
 |.call _ _ _ _ _ k=>k.no f
 |.ite _ t e=>t.no f&&e.no f
 |.bind _ t k=>t.no f&&k.no f
 |.loop _ b=>b.no f
def pM:Kind->Bool
 |.fall=>true
 |_=>false
def Ra1 (id:Nat):Kind->Bool
 |.fall=>true
 |.exit j=>Nat.beq id j
 |_=>false
def oO (id:Nat):Kind->Bool
 |.exit j=>Nat.beq id j
 |_=>false
def Nau (i:Nat):Kind->Bool
 |.yield j=>Nat.beq i j
 |_=>false
def Vaq:Kind->Bool
 |.cont=>true
 |_=>false
def Tm.falls:Tm St->List St
 |.leaf .fall _ s=>[s]
 |.leaf _ _ _=>[]
 |.stuck=>[]
 |.lt _ _ _ _ k=>k.falls
 |.call _ _ _ _ _ k=>k.falls
 |.ite _ t e=>t.falls++e.falls
 |.bind _ _ k=>k.falls
 |.loop _ _=>[]
def Tm.exits (id:Nat):Tm St->List St
 |.leaf (.exit j) _ s=>bif Nat.beq j id then [s] else []
 |.leaf _ _ _=>[]
 |.stuck=>[]
 |.lt _ _ _ _ k=>k.exits id
 |.call _ _ _ _ _ k=>k.exits id
 |.ite _ t e=>t.exits id++e.exits id
 |.bind _ t k=>t.exits id++k.exits id
 |.loop _ b=>b.exits id
def Tm.tailExits (id:Nat):Tm St->List St
 |.leaf (.exit j) _ s=>bif Nat.beq j id then [s] else []
 |.leaf _ _ _=>[]
 |.stuck=>[]
 |.lt _ _ _ _ k=>k.tailExits id
 |.call _ _ _ _ _ k=>k.tailExits id
 |.ite _ t e=>t.tailExits id++e.tailExits id
 |.bind _ t k=>k.tailExits id
 |.loop _ b=>[]
def Tm.graft (f:St->Option (Tm St)):Tm St->Option (Tm St)
 |.leaf .fall _ s=>f s
 |.leaf k xs s=>some (.leaf k xs s)
 |.stuck=>some .stuck
 |.lt g p xs n k=>(k.graft f).map fun k=>.lt g p xs n k
 |.call g c xs n o k=>(k.graft f).map fun k=>.call g c xs n o k
 |.ite c t e=>(t.graft f).bind fun t=>(e.graft f).map fun e=>.ite c t e
 |.bind i t k=>bif t.no pM then (k.graft f).map fun k=>.bind i t k else none
 |.loop i b=>bif b.no pM then some (.loop i b) else none
def Tm.exitFall (id:Nat):Tm St->Option (Tm St)
 |.leaf (.exit j) xs s=>some (bif Nat.beq id j then .leaf .fall [] s else .leaf (.exit j) xs s)
 |.leaf k xs s=>some (.leaf k xs s)
 |.stuck=>some .stuck
 |.lt g p xs n k=>(k.exitFall id).map fun k=>.lt g p xs n k
 |.call g c xs n o k=>(k.exitFall id).map fun k=>.call g c xs n o k
 |.ite c t e=>(t.exitFall id).bind fun t=>(e.exitFall id).map fun e=>.ite c t e
 |.bind i t k=>bif t.no (oO id) then (k.exitFall id).map fun k=>.bind i t k else none
 |.loop i b=>bif b.no (oO id) then some (.loop i b) else none
def Tm.turn (out:Kind)(jm:Kind->Bool)(f:St->Option (Tm St)):Tm St->Option (Tm St)
 |.leaf k xs s=>bif jm k then f s else some (.leaf k xs s)
 |.stuck=>some .stuck
 |.lt g p xs n k=>(k.turn out jm f).map fun k=>.lt g p xs n k
 |.call g c xs n o k=>(k.turn out jm f).map fun k=>.call g c xs n o k
 |.ite c t e=>(t.turn out jm f).bind fun t=>(e.turn out jm f).map fun e=>.ite c t e
 | .bind i t k =>
  bif Nau i out then (bif t.no jm then (k.turn out jm f).map fun k=>.bind i t k else none)
  else (t.turn out jm f).bind fun t=>(k.turn out jm f).map fun k=>.bind i t k
 |.loop i b=>bif Vaq out then (bif b.no jm then some (.loop i b) else none) else (b.turn out jm f).map fun b=>.loop i b
def Obb (l:List St)(n:Nat):Nat:=l.foldl (fun m s=>max m s.nr) n
def Raj (τ:St)(eK:Nat):List (Nat×Nat)->Bool
 |[]=>true
 | (r, k) :: d => Acw r eK && (match τ.get (kR r) with
  |some (.root _ _ _ .gone)=>true
  |some (.root _ _ _ (.fwd _))=>true
  |some (.root _ _ v _)=>Nat.ble k v
  |_=>false)&&Raj τ eK d
mutual
def aR.wf (τ:St)(eK:Nat):aR->Bool
 |.ex r=>(τ.get (kR r)).isSome
 |.sn d _ _ _=>Raj τ eK d
 |.px b _=>(τ.get (kB b)).isSome
 |.pe l _ _ _=>l.wf τ eK
 |.rp d _ _=>Raj τ eK d
 |.clo _ l=>nM τ eK l
 |_=>true
def nM (τ:St)(eK:Nat):List aR->Bool
 |[]=>true
 |a::r=>a.wf τ eK&&nM τ eK r
end
def sN (τ:St)(eK k:Nat):Option aS->Bool
 |none=>true
 | some c => bY τ.nv c && (match c with
  |.slot none .dead=>Nat.beq (k % 3) 0
  |.slot none (.one l)=>Nat.beq (k % 3) 0&&l.wf τ eK
  |.slot none (.agg ls)=>Nat.beq (k % 3) 0&&nM τ eK ls
  |.box _ ls=>Nat.beq (k % 3) 1&&nM τ eK ls
  |.root _ _ _ (.fwd _)=>false
  |.root _ _ _ _=>Nat.beq (k % 3) 2
  |_=>false)
def Ga9 (τ:St)(eK:Nat):List Nat->Bool
 |[]=>true
 |k::ks=>sN τ eK k (τ.get k)&&Ga9 τ eK ks
def Vab (τ:St):List Nat->Bool
 |[]=>true
 |k::ks=>(τ.get k).isNone&&Vab τ ks
def Ea3 (E:Env)(s0:St)(b9 len:Nat)(τ:St):Bool :=
 Nat.beq τ.nv (s0.nv+len)&&Nat.ble E.ntmps τ.nt&&Nat.ble τ.nt (E.ntmps+E.ngh)&&Nat.beq τ.nr (b9+len)&&Nat.ble s0.nr b9 &&
 Vab τ ((range s0.nr (b9-s0.nr)).map kR)&&Ga9 τ s0.nr ((range 0 τ.nt).map kT++(range 0 τ.nb).map kB++((range 0 s0.nr++range b9 len).map kR))
def join (E:Env)(live:Nat)(s0:St)(i:Nat)(jm:Kind->Bool)(ends:List St)(t:Tm St):Option (Tm St×St) :=
 let keys:=Nam E s0.nb live ends
 let a8:=Ibd s0.nv ends [] keys
 let fS:=Obb ends s0.nr
 let τ:=template E s0.nv s0.nb s0.nr fS ends keys a8
 bif Ea3 E s0 fS a8.length τ then (t.turn (.yield i) jm (coerce E s0.nv s0.nr fS a8 τ (.yield i))).map fun t=>(t,τ) else kG 6
def Sa5 (a b:List Pos):Bool :=
 match a,b with
 |[],[]=>true
 | p :: ps, q :: qs => Nat.beq p.k q.k && Nat.beq p.j q.j && (match p.f, q.f with
  |.sc,.sc=>true
  |.nil _,.nil _=>true
  |.ex m,.ex m'=>Nat.beq m m'
  |.sn,.sn=>true
  |.pn,.pn=>true
  |.rp _,.rp _=>true
  |.dead,.dead=>true
  |.alias i,.alias j=>Nat.beq i j
  |_,_=>false)&&Sa5 ps qs
 |_,_=>false
def Pay (τ:St)(ends:List St):List Nat->Bool
 |[]=>true
 | r :: rs => (match τ.get (kR r) with
  | some (.root _ m v st) => Ba1 st .gone || ends.all fun s => match s.get (kR r) with
   |some (.root _ m' v' u9)=>(Nat.beq m m'&&Nat.beq v v'&&Ba1 st u9)||(Ba1 st .frozen&&Ba1 u9 .live)
   |_=>false
  |_=>true)&&Pay τ ends rs
def Iaf (E:Env)(live:Nat)(s:St)(body:St->Option (Tm St)):Nat->List Pos->List Nat->Nat->List St->Option (Tm St)
 |0,_,_,_,_=>kG 3
 | fuel + 1, a8, keys, fS, seen =>
  let τ:=template E s.nv s.nb s.nr fS (s::seen) keys a8
  match body τ with
  |none=>none
  | some tb =>
   let ends:=tb.falls.map (Sa6 E s E.pxs)
   let keys':=Nam E s.nb live (s::ends)
   let plan':=Ibd s.nv (s::ends) a8 keys'
   bif Sa5 a8 plan'&&Nat.beq keys.length keys'.length&&Pay τ ends (range 0 s.nr) then do
    let (pre,s1,xs) <- kC E s.nr a8 0 { s with nr:=s.nr+a8.length }
    let s2 <- iE τ (range 0 s.nr) s1
    bif nE E s.nv xs s.nr fS s.nr a8.length τ s2&&nI s.tr s.nr a8.length&&pre.isEmpty&&Ea3 E s fS a8.length τ then do
     let tb <- tb.turn .cont pM (coerce E s.nv s.nr fS a8 τ .cont)
     some (.loop xs tb)
    else kG 2
   else Iaf E live s body fuel plan' keys' (Obb ends fS) ends
def Bb9:Operand->Option Bool
 |.const (.bool b)=>some b
 |_=>none
def Qa4:Code->Nat
 |.region r _ _=>r
 |.seq a _=>Qa4 a
 |.cond _ a _=>Qa4 a
 |.block _ b=>Qa4 b
 |.loop b=>Qa4 b
 |_=>0
def hintOf:List (Nat×List (Nat×Nat×Nat×Nat)×List Nat×Nat×List Nat)->Nat->Option (List (Nat×Nat×Nat×Nat)×List Nat×Nat×List Nat)
 |[],_=>none
 |(k,h)::r,n=>bif Nat.beq k n then some h else hintOf r n
def Obi (c z:Nat):Form :=
 match c with
 |0=>.sc
 |1=>.nil z
 |2=>.ex z
 |3=>.sn
 |4=>.pn
 |5=>.rp z
 |6=>.alias z
 |_=>.dead
def Hb9 (s:St):List Nat->St->St
 |[],t=>t
 | d :: ds, t => Hb9 s ds (t.put (kR (d / 3)) (match d % 3 with
  |0=>some (.root (.c .hole) 0 0 .gone)
  |1=>s.get (kR (d / 3))
  | _ => match s.get (kR (d / 3)) with
   |some (.root x m v _)=>some (.root x m v .frozen)
   |c=>c))
def Naj (E:Env)(s:St)(body:St->Option (Tm St))(h:List (Nat×Nat×Nat×Nat)×List Nat×Nat×List Nat):Option (Tm St) :=
 let a8:List Pos:=h.1.map fun p=>⟨p.1,p.2.1,Obi p.2.2.1 p.2.2.2⟩
 let fS:=s.nr+h.2.2.1
 let τ:=kK s.nv fS a8 0 (Hb9 s h.2.2.2 ⟨Nae s h.2.1 .nil,s.nv+a8.length,s.nb,fS+a8.length,s.nt⟩)
 match body τ with
 |none=>none
 | some tb => do
  let (pre,s1,xs) <- kC E s.nr a8 0 { s with nr:=s.nr+a8.length }
  let s2 <- iE τ (range 0 s.nr) s1
  bif nE E s.nv xs s.nr fS s.nr a8.length τ s2&&nI s.tr s.nr a8.length&&pre.isEmpty&&Ea3 E s fS a8.length τ then do
   let tb <- tb.turn .cont pM (coerce E s.nv s.nr fS a8 τ .cont)
   some (.loop xs tb)
  else kG 2
def sxC (E:Env)(p7:Bool)(rb:Nat):Code->List (Nat×Nat)->Nat->St->Option (Tm St)
 |.skip,_,_,s=>some (.leaf .fall [] s)
 |.label _,_,_,s=>some (.leaf .fall [] s)
 |.ret,_,_,s=>some (.leaf .ret [] s)
 |.exit id,_,_,s=>some (.leaf (.exit id) [] s)
 |.region kn ops draw,_,_,s=>some (Mar E p7 kn ops.toList draw s)
 | .seq a b, ex, live, s => do
  let mid:=Kaf b ex rb live
  let t <- sxC E p7 rb a ex mid s
  bif t.no pM then some t else
  match t.falls with
  |[_]=>t.graft (sxC E p7 rb b ex live)
  | ends => do
   let (t,τ) <- join E mid s 0 pM ends t
   let k <- sxC E p7 rb b ex live τ
   some (.bind 0 t k)
 | .cond c a b, ex, live, s =>
  match Bb9 c with
  |some true=>sxC E p7 rb a ex live s
  |some false=>sxC E p7 rb b ex live s
  |none =>
  match s.get (match c with|.tmp t=>kT t|_=>0),c with
  | some (.slot none (.one (.sc x))), .tmp t => bif !(bB s.nv x && Acw t E.ntmps) then some .stuck else do
   let t <- sxC E p7 rb a ex live s
   let e <- sxC E p7 rb b ex live s
   some (.ite x t e)
  |_,_=>some .stuck
 | .block id b, ex, live, s => do
  let t <- sxC E p7 rb b ((id,live)::ex) live s
  bif t.no (oO id) then some t else
  match t.falls,t.exits id,t.tailExits id with
  |[],[_],[_]=>t.exitFall id
  | fs, es, _ => do
   let (t,τ) <- join E live s (id+1) (Ra1 id) (fs++es) t
   some (.bind (id+1) t (.leaf .fall [] τ))
 | .loop b, ex, _, s =>
  let live':=Kaf (.loop b) ex rb 0
  match hintOf E.hints (Qa4 b) with
  |some h=>Naj E s (sxC E p7 rb b ex live') h
  |none=>Iaf E live' s (sxC E p7 rb b ex live') 9 [] (Nam E s.nb live' [s]) s.nr []
 |.scope _,_,_,_=>some .stuck
 |.goto _,_,_,_=>some .stuck
 |.rangeFunc _ _ _ _,_,_,_=>some .stuck
 |.refuse _,_,_,_=>some .stuck
def iW (i nr:Nat):LS->aR×List (Nat×aS)×Nat×Nat
 |.sc=>(.sc (.v i),[],i+1,nr)
 |.fz nie=>(.sn [] .no nie (.v i),[],i+1,nr)
 |.mu m=>(.ex nr,[(kR nr,.root (.v i) m 0 .live)],i+1,nr+1)
 |.ow m=>(.ex nr,[(kR nr,.root (.v i) m 0 .live)],i+1,nr+1)
 |.px b=>(.px b 0,[],i,nr)
 |.clo f cs=>(.clo f (cs.map fun c=>match c with | .px b=>.px b 0 | _=>.dead),[],i,nr)
 |.rp z=>(.rp [] z (.v i),[],i+1,nr)
def dU (i nr:Nat):List LS->List aR×List (Nat×aS)×Nat×Nat
 |[]=>([],[],i,nr)
 | s :: ss =>
  let (l,u,i,nr):=iW i nr s
  let (ls,us,i,nr):=dU i nr ss
  (l::ls,u++us,i,nr)
def jR (t i nr:Nat):List (Bool×List LS)->List (Nat×aS)×Nat×Nat
 |[]=>([],i,nr)
 | (a, ss) :: ps =>
  let (ls,u,i,nr):=dU i nr ss
  let (us,i,nr):=jR (t+1) i nr ps
  ((kT t,.slot none (match Uar a ls with|some v=>v|none=>.dead))::u++us,i,nr)
def gT (i nr:Nat):BS->aR×List (Nat×aS)×Nat×Nat
 |.sc=>(.sc (.v i),[],i+1,nr)
 |.fz nie=>(.sn [] .no nie (.v i),[],i+1,nr)
 |.ow m=>(.ex nr,[(kR nr,.root (.v i) m 0 .live)],i+1,nr+1)
 |.ot=>(.dead,[],i,nr)
def gL (i nr:Nat):List (BS×BO)->List aR×List (Nat×aS)×Nat×Nat
 |[]=>([],[],i,nr)
 | (s, _) :: ss =>
  let (l,u,i,nr):=gT i nr s
  let (ls,us,i,nr):=gL i nr ss
  (l::ls,u++us,i,nr)
def kQ (b i nr:Nat):List (Bool×List (BS×BO))->List (Nat×aS)×Nat×Nat
 |[]=>([],i,nr)
 | (ro, cs) :: bs =>
  let (ls,u,i,nr):=gL i nr cs
  let (us,i,nr):=kQ (b+1) i nr bs
  ((kB b,.box ro ls)::u++us,i,nr)
def eQ (r:Nat):List LS->List Nat
 |[]=>[]
 |.mu _::ss=>r::eQ (r+1) ss
 |.ow _::ss=>eQ (r+1) ss
 |_::ss=>eQ r ss
def sJ (t:Nat):List aR->List (Nat×aS)
 |[]=>[]
 |l::ls=>(kT t,.slot none (.one l))::sJ (t+1) ls
def Qa0 (s:Sig):List aR:=(eQ 0 (s.params.flatMap (·.2))).map aR.ex++(range 0 s.boxes.length).map fun b=>aR.px b 0
def nD (s:Sig):Nat:=(Qa0 s).length
def entry (s:Sig)(ntmps:Nat):St :=
 let (u,i,nr):=jR 0 0 0 s.params
 let (v,i,nr):=kQ 0 i nr s.boxes
 (St.puts ⟨.nil,i,s.boxes.length,nr,ntmps+nD s⟩ (u++v++sJ ntmps (Qa0 s)))
structure Fin where
 xs:List aL
 own:List (Nat×Nat×Nat)
 q:Nat
 frz:List Nat
 lets:List Step
 bxs:List Nat
def Aae (F:Fin)(r m:Nat)(x:aL):Fin:={ F with xs:=F.xs++[x],own:=F.own++[(r,2*F.q,m)],q:=F.q+1 }
def Vay (F:Fin)(z:Nat):Fin:={ F with xs:=F.xs++[.c (.rows z [])],q:=F.q+1 }
def Qa7 (F:Fin)(m:Nat):aR->RdM Fin
 |.sn [] _ true (.c (.rows z []))=>.ret (Vay F z)
 | .ex r => do
  match <- rdK (kR r) with
  | some (.root x m' v .live) => do
   bM (Nat.ble m m')
   .ret (Aae F r m x)
  |_=>.no
 | .sn [(r, k)] .view _ x => do
  match <- rdK (kR r) with
  | some (.root _ m' v .live) => do
   bM (Nat.ble m m'&&Nat.beq v k)
   .ret (Aae F r m x)
  |_=>.no
 |_=>.no
def Qa9 (F:Fin)(l:aR):RdM Fin:=do
 let s <- yJ l
 .ret { F with xs:=F.xs++[s.x],frz:=F.frz++s.deps.map (·.1) }
def Jaa (nv:Nat)(F:Fin):LR->aR->RdM Fin
 |.sc,.sc x=>.ret { F with xs:=F.xs++[x] }
 |.fz,l=>Qa9 F l
 |.ow m,l=>Qa7 F m l
 |.rp z,.pn=>.ret { F with xs:=F.xs++[.c (.rows z [])] }
 | .rp z, .rp deps z' x => do
  let d <- wD deps
  .ret { F with xs:=F.xs++[x],frz:=F.frz++d.map (·.1) }
 | .rp z, .pe l z' i 0 => do
  let s <- yJ l
  .ret { F with xs:=F.xs++[.v (nv+bI F.lets)],frz:=F.frz++s.deps.map (·.1),lets:=F.lets++[.prim (.one z') [s.x,i] 1] }
 |_,_=>.no
def Eaj (F:Fin):BO->aR->RdM Fin
 |.sc,.sc x=>.ret { F with xs:=F.xs++[x] }
 |.fz,l=>Qa9 F l
 |.ow m,l=>Qa7 F m l
 |.dead,l=>bif Pac l then .ret { F with xs:=F.xs++[.c .hole] } else .no
 |_,_=>.no
def jH:Fin->List BO->List aR->RdM Fin
 |F,[],[]=>.ret F
 | F, s :: ss, l :: ls => do
  let F <- Eaj F s l
  jH F ss ls
 |_,_,_=>.no
def iH (nv:Nat):Fin->List LR->List aR->RdM Fin
 |F,[],[]=>.ret F
 | F, s :: ss, l :: ls => do
  let F <- (match s,l with
   | .bx cs, .px b 0 => do
    match <- rdK (kB b) with
    |some (.box false bs)=>jH { F with bxs:=F.bxs++[b] } cs bs
    |_=>.no
   |s,l=>Jaa nv F s l)
  iH nv F ss ls
 |_,_,_=>.no
def pE (E:Env)(nv:Nat):Fin->List (Bool×List LR)->List ResultVar->RdM Fin
 |F,[],[]=>.ret F
 | F, (a, ss) :: rs, .tmp t :: vs => do
  match <- rdK (kT t) with
  | some (.slot none v) => do
   bM (Acw t E.ntmps)
   let ls <- nL (kD a v)
   let F <- iH nv F ss ls
   pE E nv F rs vs
  |_=>.no
 | F, (a, ss) :: rs, .cell t ty :: vs => do
  let ti <- nL (E.ti ty)
  bM ((a==ti.agg)&&Nat.beq ss.length ti.size&&(ti.agg||Nat.beq ti.size 1)&&Acw t E.ntmps)
  match <- rdK (kT t) with
  | some (.slot none (.one (.px b off))) => do
   match <- rdK (kB b) with
   | some (.box _ ls) => do
    let F <- iH nv F ss ((ls.drop off).take ti.size)
    pE E nv F rs vs
   |_=>.no
  |_=>.no
 |_,_,_=>.no
def dY:List LS->List Nat
 |[]=>[]
 |.mu m::ss=>m::dY ss
 |_::ss=>dY ss
def Fap (t:Nat):Nat->List Nat->Fin->RdM Fin
 |_,[],F=>.ret F
 | j, d :: ds, F => do
  match <- rdK (kT (t+j)) with
  | some (.slot none (.one (.ex r))) => do
   match <- rdK (kR r) with
   | some (.root x m _ .live) => do
    bM (Nat.ble d m)
    Fap t (j+1) ds { F with xs:=F.xs++[x],own:=F.own++[(r,2*j+1,d)] }
   |_=>.no
  |_=>.no
def qM (t:Nat):Fin->Nat->List (Bool×List (BS×BO))->RdM Fin
 |F,_,[]=>.ret F
 | F, b, (ro, cs) :: r => do
  bif ro then qM t F (b+1) r else
  match <- rdK (kT (t+b)) with
  | some (.slot none (.one (.px b' 0))) => do
   bM (Nat.beq b' b)
   match <- rdK (kB b) with
   | some (.box false ls) => do
    let F <- jH F (cs.map (·.2)) ls
    qM t F (b+1) r
   |_=>.no
  |_=>.no
def Ibk (E:Env)(s:Sig)(results:List ResultVar)(nv:Nat):RdM Fin:=do
 let F <- pE E nv ⟨[],[],0,[],[],[]⟩ s.results results
 let ms:=dY (s.params.flatMap (·.2))
 let F <- Fap E.ntmps 0 ms F
 qM (E.ntmps+ms.length) F 0 s.boxes
def finish (E:Env)(s:Sig)(results:List ResultVar)(st:St):Option (Tm St) :=
 match (Ibk E s results st.nv).eval st.get with
 | some F =>
  bif distinct (F.own.map (·.1))&&!(meets (F.own.map (·.1)) F.frz)&&!(F.bxs.any fun b=>Acw b s.boxes.length)&&eP st.nv F.lets then
   some (oD none (.leaf .ret F.xs st) F.lets) else none
 |none=>none
def Hb6 (E:Env)(p7:Bool)(s:Sig)(body:Code)(live:Nat):Option (Tm St) :=
 let e:=entry s E.ntmps
 bif Ga9 e e.nr ((range 0 e.nt).map kT++(range 0 e.nb).map kB++(range 0 e.nr).map kR) then sxC E p7 live body [] live e else kG 7
def Jbk (l:List ResultVar):Nat:=l.foldl (fun m r=>match r with|.tmp t=>m ||| 2 ^ t|.cell t _=>m ||| 2 ^ t) 0
def Sbo:Kind->Bool
 |.ret=>true
 |.fall=>true
 |_=>false
def Waw (E:Env)(s:Sig)(fn:Func):Option (Tm Unit) :=
 match fn.body with
 |none=>none
 | some c => bif !(Nat.ble s.params.length fn.ntmps) then none else do
  let E:={ E with ntmps:=fn.ntmps,ngh:=nD s,nbx:=s.boxes.length }
  let t <- Hb6 E false s c (Jbk fn.results.toList)
  let t <- t.turn .ret Sbo fun st=>(match finish E s fn.results.toList st with|some t=>some t|none=>some .stuck)
  some t.strip
inductive Sc:Value->D->Prop
 |int (k:IntKind) (n:Int):Sc (.int k n) (.int k n)
 |bool (b:Bool):Sc (.bool b) (.bool b)
 |str (l:List UInt8):Sc (.string ⟨l.toArray⟩) (.str l)
inductive Rd (ok:Nat->Prop) (w:World):Value->D->Prop
 |sc {v:Value} {d:D} (h:Sc v d):Rd ok w v d
 |hole (v:Value) (h1:v.oneCell'=true):Rd ok w v .hole
 | rows (A : Option Addr) (a : Addr) (n c sz : Nat) (rs : List (List D)) (vs : Nat -> Nat -> Value)
   (hn:rs.length=n) (hc:n<=c) (hA:n=0\/A=some a) (dw:∀ r∈rs,r.length=sz)
   (bd:∀ i r,rs[i]?=some r->∀ j d,r[j]?=some d->ok a.block/\w.cell? (a.add (i*sz+j))=some (vs i j))
   (cq:∀ i r,rs[i]?=some r->∀ j d,r[j]?=some d->Rd ok w (vs i j) d) :
   Rd ok w (.slice A n c) (.rows sz rs)
inductive Ow where
 |frz
 |slc (r:Nat) (p:List Nat)
 |box (b:Nat)
 |oth
 deriving DecidableEq
inductive Rp (own:Nat->Ow) (w:World) (r:Nat):List Nat->Nat->Value->D->Prop
 |sc {p:List Nat} {m:Nat} {v:Value} {d:D} (h:Sc v d):Rp own w r p m v d
 |hole {p:List Nat} {m:Nat} (v:Value) (h1:v.oneCell'=true):Rp own w r p m v .hole
 |fz {p:List Nat} {v:Value} {d:D} (h:Rd (fun b=>own b=.frz) w v d):Rp own w r p 0 v d
 | sl {p : List Nat} {m : Nat} (A : Option Addr) (a : Addr) (n c sz : Nat) (rs : List (List D)) (vs : Nat -> Nat -> Value)
   (hn:rs.length=n) (hc:n<=c) (hA:A=some a\/(A=none/\c=0)) (dw:∀ r∈rs,r.length=sz)
   (a7:A=some a->a.spot=none/\own a.block=.slc r p/\∀ k,k<c*sz->∃ u,w.cell? (a.add k)=some u/\w.frozen? (a.add k)=false)
   (bd:∀ i row,rs[i]?=some row->∀ j d,row[j]?=some d->w.cell? (a.add (i*sz+j))=some (vs i j))
   (cq:∀ i row,rs[i]?=some row->∀ j d,row[j]?=some d->Rp own w r (p++[i*sz+j]) m (vs i j) d) :
   Rp own w r p (m+1) (.slice A n c) (.rows sz rs)
def zN (own:Nat->Ow)(w:World)(r:Nat):List Nat->Value->List Nat->Value->Prop
 |_,v,[],u=>u=v
 |q,v,k::p,u=>∃ a n c u',v=.slice (some a) n c/\own a.block=.slc r q/\w.cell? (a.add k)=some u'/\zN own w r (q++[k]) u' p u
theorem fA {w w':World}{a:Addr}(h:w'.heap[a.block]?=w.heap[a.block]?):w'.cell? a=w.cell? a:=by
 unfold World.cell?;rw[h]
theorem kS {w w':World}{a:Addr}(h:w'.heap[a.block]?=w.heap[a.block]?):w'.frozen? a=w.frozen? a:=by
 unfold World.frozen?;rw[h]
theorem add_block (a:Addr)(k:Nat):(a.add k).block=a.block:=by unfold Addr.add;split<;>rfl
theorem add_add (a:Addr)(j k:Nat):(a.add j).add k=a.add (j+k):=by
 unfold Addr.add;by_cases hj:j=0<;>by_cases hk:k=0<;>simp_all<;>omega
theorem Rd.mono {ok ok':Nat->Prop}{w w':World}{v:Value}{d:D}(h:Rd ok w v d)
  (hf:∀ b,ok b->ok' b/\w'.heap[b]?=w.heap[b]?):Rd ok' w' v d:=by
 induction h with
 |sc h=>exact .sc h
 |hole v h1=>exact .hole v h1
 | rows A a n c sz rs vs hn hc hA dw bd cq ih =>
  refine .rows A a n c sz rs vs hn hc hA dw (fun i r hi j d hj=>?_) (fun i r hi j d hj=>ih i r hi j d hj);obtain⟨h1,h2⟩:=bd i r hi j d hj;obtain⟨h3,h4⟩:=hf _ h1;exact⟨h3,(fA (w:=w) (w':=w') (by rw[add_block];exact h4)).trans h2⟩
theorem Rp.mono {own own':Nat->Ow}{w w':World}{r r':Nat}{q q':List Nat}{p:List Nat}{m:Nat}{v:Value}{d:D}(h:Rp own w r p m v d)
  (hz:∀ b,own b=.frz->own' b=.frz/\w'.heap[b]?=w.heap[b]?) :
  ∀ s,p=q++s->(∀ b t,own b=.slc r (q++t)->own' b=.slc r' (q'++t)/\w'.heap[b]?=w.heap[b]?)->Rp own' w' r' (q'++s) m v d:=by
 induction h with
 |sc h=>exact fun _ _ _=>.sc h
 |hole v h1=>exact fun _ _ _=>.hole v h1
 |fz h=>exact fun _ _ _=>.fz (h.mono hz)
 | sl A a n c sz rs vs hn hc hA dw a7 bd cq ih =>
  rename_i p m;intro s hp hs;refine .sl A a n c sz rs vs hn hc hA dw (fun e=>?_) (fun i row hi j d hj=>?_) (fun i row hi j d hj=>?_)
  ·obtain⟨h1,h2,h3⟩:=a7 e
   rw[hp]at h2;obtain⟨h4,h5⟩:=hs _ _ h2;refine⟨h1,h4,fun k hk=>?_⟩;obtain⟨u,hu,hf⟩:=h3 k hk;exact⟨u,(fA (w:=w) (w':=w') (by rw[add_block];exact h5)).trans hu,(kS (w:=w) (w':=w') (by rw[add_block];exact h5)).trans hf⟩
  ·rcases hA with e|⟨e,e'⟩
   ·obtain⟨h1,h2,h3⟩:=a7 e
    rw[hp]at h2;obtain⟨h4,h5⟩:=hs _ _ h2;exact (fA (w:=w) (w':=w') (by rw[add_block];exact h5)).trans (bd i row hi j d hj)
   ·exfalso
    have:i<rs.length:=by
     rcases Zbz i rs.length with h|h
     ·exact h
     ·simp[Ac0 h]at hi
    omega
  ·have:=ih i row hi j d hj (s++[i*sz+j]) (by rw[hp,Zbm]) hs
   rwa[<- Zbm]at this
theorem Rp.rd {own:Nat->Ow}{w:World}{r:Nat}{p:List Nat}{m:Nat}{v:Value}{d:D}(h:Rp own w r p m v d) :
  Rd (fun b=>own b=.frz\/∃ q,own b=.slc r q) w v d:=by
 induction h with
 |sc h=>exact .sc h
 |hole v h1=>exact .hole v h1
 |fz h=>exact h.mono fun b hb=>⟨.inl hb,rfl⟩
 | sl A a n c sz rs vs hn hc hA dw a7 bd cq ih =>
  refine .rows A a n c sz rs vs hn hc ?_ dw (fun i row hi j d hj=>?_) ih
  ·rcases hA with e|⟨e,e'⟩
   ·exact .inr e
   ·exact .inl (by omega)
  ·refine⟨?_,bd i row hi j d hj⟩
   rcases hA with e|⟨e,e'⟩
   ·exact .inr ⟨_,(a7 e).2.1⟩
   ·exfalso
    have:i<rs.length:=by
     rcases Zbz i rs.length with h|h
     ·exact h
     ·simp[Ac0 h]at hi
    omega
theorem Rp.weaken {own own':Nat->Ow}{w:World}{r:Nat}{p:List Nat}{m:Nat}{v:Value}{d:D}(h:Rp own w r p m v d)
  (hz:∀ b,own b=.frz->own' b=.frz):∀ (m':Nat),m'<=m ->
  (∀ b t,own b=.slc r (p++t)->own' b=(if t.length<m' then .slc r (p++t) else .frz))->Rp own' w r p m' v d:=by
 induction h with
 |sc h=>exact fun _ _ _=>.sc h
 |hole v h1=>exact fun _ _ _=>.hole v h1
 | fz h =>
  intro m' hm hs;obtain rfl:m'=0:=by omega
  exact .fz (h.mono fun b hb=>⟨hz b hb,rfl⟩)
 | sl A a n c sz rs vs hn hc hA dw a7 bd cq ih =>
  rename_i p m;intro m' hm hs
  cases m' with
  | zero =>
   refine .fz (.rows A a n c sz rs vs hn hc ?_ dw (fun i row hi j d hj=>?_) (fun i row hi j d hj=>?_))
   ·rcases hA with e|⟨e,e'⟩
    ·exact .inr e
    ·exact .inl (by omega)
   ·refine⟨?_,bd i row hi j d hj⟩
    rcases hA with e|⟨e,e'⟩
    ·have:=hs a.block [] (by simpa using (a7 e).2.1)
     simpa using this
    ·exfalso
     have:i<rs.length:=by
      rcases Zbz i rs.length with h|h
      ·exact h
      ·simp[Ac0 h]at hi
     omega
   ·have h1:=ih i row hi j d hj 0 (Nat.zero_le _) (fun b t hb=>by
     have:=hs b ([i*sz+j]++t) (by rw[<- Zbm];exact hb);simpa using this)
    generalize vs i j=u at h1
    cases h1 with
    |sc h=>exact .sc h
    |hole _ h1=>exact .hole _ h1
    |fz h=>exact h
  | succ m' =>
   refine .sl A a n c sz rs vs hn hc hA dw (fun e=>?_) bd (fun i row hi j d hj=>?_)
   ·obtain⟨h1,h2,h3⟩:=a7 e
    refine⟨h1,?_,h3⟩;have:=hs a.block [] (by simpa using h2);simpa using this
   ·refine ih i row hi j d hj m' (by omega) (fun b t hb=>?_)
    have:=hs b ([i*sz+j]++t) (by rw[<- Zbm];exact hb);simp only[List.length_append,List.length_singleton]at this;rw[this,<- Zbm];by_cases ht:t.length<m'
    ·rw[if_pos ht,if_pos (by omega)]
    ·rw[if_neg ht,if_neg (by omega)]
theorem Sc.one {v:Value}{d:D}(h:Sc v d):v.oneCell'=true:=by cases h<;>rfl
theorem Rd.one {ok:Nat->Prop}{w:World}{v:Value}{d:D}(h:Rd ok w v d):v.oneCell'=true:=by
 cases h with
 |sc h=>exact h.one
 |hole _ h1=>exact h1
 |rows=>rfl
theorem Rp.one {own:Nat->Ow}{w:World}{r:Nat}{p:List Nat}{m:Nat}{v:Value}{d:D}(h:Rp own w r p m v d):v.oneCell'=true:=by
 cases h with
 |sc h=>exact h.one
 |hole _ h1=>exact h1
 |fz h=>exact h.one
 |sl=>rfl
structure Gh where
 own:Nat->Ow
 hdr:Nat->Value
 bx:Nat->Addr
def mE (σ:Nat->Option aS)(r k:Nat):Prop:=∃ x m st,σ (kR r)=some (.root x m k st)/\(st=.live\/st=.frozen)
def zF (σ:Nat->Option aS)(r k m:Nat):Prop:=∃ x,σ (kR r)=some (.root x m k .live)
def jG (σ:Nat->Option aS)(r k:Nat):Prop:=∃ x m bc st,σ (kR r)=some (.root x m bc st)/\(st=.live\/st=.frozen->k<=bc)
def allow (G:Gh)(deps:List (Nat×Nat))(b:Nat):Prop:=G.own b=.frz\/∃ r k p,(r,k)∈deps/\G.own b=.slc r p
def lD (ρ:List D)(x:aL):Nat:=match x.val ρ with
 |.int _ n=>n.toNat
 |_=>0
def bD (ρ:List D)(p:List (aL×Nat×Nat)):List Nat:=p.map fun x=>lD ρ x.1*x.2.1+x.2.2
def Ibt (h v:Value)(sz L:Nat):Prop:=∃ A n c,h=.slice A n c/\L<=n/\v=.slice (if c=L then A else A.map (·.add (L*sz))) (n-L) (c-L)
def Dam (σ:Nat->Option aS)(ρ:List D)(G:Gh)(w:World)(deps:List (Nat×Nat))(v:Value)(d:D):Pth->Prop
 |.no=>True
 |.view=>∀ r k m,deps=[(r,k)]->zF σ r k m->Rp G.own w r [] m v d
 |.suf sz lo=>∀ r k m,deps=[(r,k)]->zF σ r k m->Ibt (G.hdr r) v sz (lD ρ lo)
 |.path p=>∀ r k m,deps=[(r,k)]->zF σ r k m->p.length<=m/\Rp G.own w r (bD ρ p) (m-p.length) v d/\zN G.own w r [] (G.hdr r) (bD ρ p) v
mutual
def aB (σ:Nat->Option aS)(ρ:List D)(G:Gh)(w:World):aR->Value->Prop
 |.dead,v=>v.oneCell'=true
 |.sc x,v=>Sc v (x.val ρ)
 |.su g x,v=>(Sc v (x.val ρ)\/(v=undef/\x.val ρ=.undef))/\(gOn ρ (some g)=true->Sc v (x.val ρ))
 |.ex r,v=>v=G.hdr r/\(σ (kR r)).isSome/\v.oneCell'=true
 | .sn deps p nie x, v => (v.oneCell' = true /\ ∀ z ∈ deps, jG σ z.1 z.2) /\ ((∀ z ∈ deps, mE σ z.1 z.2) ->
   Rd (allow G deps) w v (x.val ρ)/\(nie=true->∀ z,x.val ρ=.rows z []->v=.slice none 0 0)/\Dam σ ρ G w deps v (x.val ρ) p)
 |.px b off,v=>v=.pointer (some ((G.bx b).add off))/\(σ (kB b)).isSome
 |.pe l sz i off,v=>∃ a n c k iv,aB σ ρ G w l (.slice (some a) n c)/\i.val ρ=.int k iv/\0<=iv/\iv.toNat<n/\v=.pointer (some (a.add (iv.toNat*sz+off)))
 | .rp deps sz x, v => (v.oneCell' = true /\ ∀ z ∈ deps, jG σ z.1 z.2) /\ ((∀ z ∈ deps, mE σ z.1 z.2) ->
   (v=.pointer none/\∃ z,x.val ρ=.rows z []) \/
   ∃ a row,v=.pointer (some a)/\x.val ρ=.rows row.length [row]/\Rd (allow G deps) w (.slice (some a) 1 1) (.rows row.length [row]))
 |.pn,v=>v=.pointer none
 |.clo f fu,v=>∃ vs,v=.func (.func f) #[] vs.toArray/\aG σ ρ G w fu vs
def aG (σ:Nat->Option aS)(ρ:List D)(G:Gh)(w:World):List aR->List Value->Prop
 |[],vs=>vs=[]
 |l::ls,vs=>∃ u us,vs=u::us/\aB σ ρ G w l u/\aG σ ρ G w ls us
end
def iP (σ:Nat->Option aS)(ρ:List D)(G:Gh)(w:World):List (Bool×List aR)->List Value->Prop
 |[],us=>us=[]
 |(a,ls)::r,us=>∃ u cW vs,us=u::cW/\aG σ ρ G w ls vs/\(if a=true then u=.agg vs.toArray else vs=[u])/\iP σ ρ G w r cW
def cB (σ:Nat->Option aS)(ρ:List D)(G:Gh)(w:World):SV->Value->Prop
 |.dead,_=>True
 |.one l,v=>aB σ ρ G w l v
 |.agg ls,v=>∃ vs,v=.agg vs.toArray/\aG σ ρ G w ls vs
 |.tup ts,v=>∃ us,v=.tuple us.toArray/\iP σ ρ G w ts us
def Bae (n:Nat)(a:Act)(gh:Nat->Value)(t:Nat):Value:=if t<n then a.tmps.getD t undef else gh (t-n)
def bS (σ:Nat->Option aS)(ρ:List D)(G:Gh)(w:World)(r:Nat)(x:aL)(m:Nat):RSt->Prop
 |.live=>Rp G.own w r [] m (G.hdr r) (x.val ρ)
 |.frozen=>Rd (fun b=>G.own b=.frz) w (G.hdr r) (x.val ρ)/\∀ b p,G.own b≠.slc r p
 |.gone=>True
 |.fwd r'=>G.hdr r=G.hdr r'/\(σ (kR r')).isSome
def Mal (σ:Nat->Option aS)(ρ:List D)(G:Gh)(w:World)(b:Nat)(ro:Bool)(ls:List aR):Prop :=
 (G.bx b).spot=none/\G.own (G.bx b).block=(if ro=true then .oth else .box b) /\
 ∀ j l,ls[j]?=some l->∃ v,w.cell? ((G.bx b).add j)=some v/\w.frozen? ((G.bx b).add j)=false/\aB σ ρ G w l v
structure bH where
 w0:World
 own0:Nat->Ow
 gh:Nat->Value
 rng:Nat->Nat×Nat
structure mP (F:bH) (G:Gh) (w:World):Prop where
 os:w.os=F.w0.os
 tape:w.tape=F.w0.tape
 output:w.output=F.w0.output
 size:F.w0.heap.size<=w.heap.size
 keep:∀ b,b<F.w0.heap.size->F.own0 b=.frz\/F.own0 b=.oth->w.heap[b]?=F.w0.heap[b]?/\G.own b=F.own0 b
 boxes:∀ b j,b<F.w0.heap.size->F.own0 b=.box j->G.own b=.box j/\∃ c0 c1 e fr,F.w0.heap[b]?=some (.cells c0 e fr)/\w.heap[b]?=some (.cells c1 e fr)/\c1.size=c0.size /\
  ∀ k,k<(F.rng j).1\/(F.rng j).2<=k->c1[k]?=c0[k]?
 fresh:∀ b,w.heap.size<=b->G.own b=.frz
def Cb1 (n:Nat)(gh:Nat->Value)(σ:Nat->Option aS)(ρ:List D)(G:Gh)(a:Act)(w:World):Nat->aS->Prop
 |k,.slot g v=>∃ t,k=kT t/\(gOn ρ g=true->cB σ ρ G w v (Bae n a gh t))
 |k,.box ro ls=>∃ b,k=kB b/\Mal σ ρ G w b ro ls
 |k,.root x m bc st=>∃ r,k=kR r/\(σ (kR r)).isSome/\bS σ ρ G w r x m st
structure R (n:Nat) (F:bH) (σ:Nat->Option aS) (ρ:List D) (a:Act) (w:World) (G:Gh):Prop where
 tmps:a.tmps.size=n
 defers:a.defers=[]
 cont:∀ k c,σ k=some c->Cb1 n F.gh σ ρ G a w k c
 frame:mP F G w
 rng:∀ b ls,σ (kB b)=some (.box false ls)->(G.bx b).block<F.w0.heap.size->F.own0 (G.bx b).block=.box b->F.rng b=((G.bx b).off,(G.bx b).off+ls.length)
theorem Obe {a b:Nat}(h:kT a=kT b):a=b:=by unfold kT at h;omega
theorem Cas {a b:Nat}(h:kB a=kB b):a=b:=by unfold kB at h;omega
theorem eZ {a b:Nat}(h:kR a=kR b):a=b:=by unfold kR at h;omega
theorem lT {a b:Nat}:kT a≠kB b:=by unfold kT kB;omega
theorem iU {a b:Nat}:kT a≠kR b:=by unfold kT kR;omega
theorem fE {a b:Nat}:kB a≠kR b:=by unfold kB kR;omega
section
variable {n:Nat} {F:bH} {σ:Nat->Option aS} {ρ:List D} {a:Act} {w:World} {G:Gh}
theorem R.slot (h:R n F σ ρ a w G){t:Nat}{g:Option (aL×Bool)}{v:SV}(hk:σ (kT t)=some (.slot g v))(hg:gOn ρ g=true):cB σ ρ G w v (Bae n a F.gh t):=by
 obtain⟨t',e,h'⟩:=h.cont _ _ hk;obtain rfl:=Obe e;exact h' hg
theorem R.box (h:R n F σ ρ a w G){b:Nat}{ro:Bool}{ls:List aR}(hk:σ (kB b)=some (.box ro ls)):Mal σ ρ G w b ro ls:=by
 obtain⟨t',e,h'⟩:=h.cont _ _ hk;obtain rfl:=Cas e;exact h'
theorem R.root (h:R n F σ ρ a w G){r:Nat}{x:aL}{m bc:Nat}{st:RSt}(hk:σ (kR r)=some (.root x m bc st)):bS σ ρ G w r x m st:=by
 obtain⟨t',e,_,h'⟩:=h.cont _ _ hk;obtain rfl:=eZ e;exact h'
end
structure Fr (σ:Nat->Option aS) (G:Gh) (w:World) (ej:Nat->Option aS) (G':Gh) (w':World):Prop where
 frz:∀ b,G.own b=.frz->b<w.heap.size->G'.own b=.frz/\w'.heap[b]?=w.heap[b]?
 valid:∀ r k,jG σ r k->mE ej r k->mE σ r k
 known:∀ r k,jG σ r k->jG ej r k
 slc:∀ r k b p,mE σ r k->mE ej r k->G.own b=.slc r p->(G'.own b=.slc r p\/G'.own b=.frz)/\w'.heap[b]?=w.heap[b]?
 live:∀ r k m,jG σ r k->zF ej r k m->zF σ r k m/\∀ b p,G.own b=.slc r p->G'.own b=.slc r p
 hdr:∀ r,(σ (kR r)).isSome->G'.hdr r=G.hdr r
 bx:∀ b,(σ (kB b)).isSome->G'.bx b=G.bx b
 keep:∀ k,(σ k).isSome->(ej k).isSome
 froz:∀ r x m k,σ (kR r)=some (.root x m k .frozen)->∀ b p,G'.own b=.slc r p->G.own b=.slc r p
theorem jG.some {σ:Nat->Option aS}{r k:Nat}(h:jG σ r k):(σ (kR r)).isSome:=by
 obtain⟨x,m,bc,st,e,_⟩:=h;rw[e];rfl
theorem mE.known {σ:Nat->Option aS}{r k:Nat}(h:mE σ r k):jG σ r k:=by
 obtain⟨x,m,st,e,_⟩:=h;exact⟨x,m,k,st,e,fun _=>Nat.le_refl _⟩
theorem jG.same {σ ej:Nat->Option aS}(h:∀ r,ej (kR r)=σ (kR r)){r k:Nat}(hk:jG σ r k):jG ej r k:=by
 obtain⟨x,m,bc,st,e,h1⟩:=hk;exact⟨x,m,bc,st,by rw[h];exact e,h1⟩
theorem zF.valid {σ:Nat->Option aS}{r k m:Nat}(h:zF σ r k m):mE σ r k:=by
 obtain⟨x,e⟩:=h;exact⟨x,m,.live,e,.inl rfl⟩
theorem block_lt {w:World}{a:Addr}{v:Value}(h:w.cell? a=some v):a.block<w.heap.size:=by
 rcases Zbz a.block w.heap.size with h1|h1
 ·exact h1
 ·unfold World.cell? at h
  rw[Array.getElem?_eq_none h1]at h;cases h
theorem Jas {w:World}{a:Addr}{v:Value}(h:w.cell? a=some v):a.block<w.heap.size:=block_lt h
theorem Rd.mono' {ok ok':Nat->Prop}{w w':World}{v:Value}{d:D}(h:Rd ok w v d)
  (hf:∀ b,ok b->b<w.heap.size->ok' b/\w'.heap[b]?=w.heap[b]?):Rd ok' w' v d:=by
 induction h with
 |sc h=>exact .sc h
 |hole v h1=>exact .hole v h1
 | rows A a n c sz rs vs hn hc hA dw bd cq ih =>
  refine .rows A a n c sz rs vs hn hc hA dw (fun i r hi j d hj=>?_) (fun i r hi j d hj=>ih i r hi j d hj);obtain⟨h1,h2⟩:=bd i r hi j d hj;have hlt:=Jas h2;rw[add_block]at hlt;obtain⟨h3,h4⟩:=hf _ h1 hlt;exact⟨h3,(fA (w:=w) (w':=w') (by rw[add_block];exact h4)).trans h2⟩
theorem Rp.mono' {own own':Nat->Ow}{w w':World}{r r':Nat}{q q':List Nat}{p:List Nat}{m:Nat}{v:Value}{d:D}(h:Rp own w r p m v d)
  (hz:∀ b,own b=.frz->b<w.heap.size->own' b=.frz/\w'.heap[b]?=w.heap[b]?) :
  ∀ s,p=q++s->(∀ b t,own b=.slc r (q++t)->own' b=.slc r' (q'++t)/\w'.heap[b]?=w.heap[b]?)->Rp own' w' r' (q'++s) m v d:=by
 induction h with
 |sc h=>exact fun _ _ _=>.sc h
 |hole v h1=>exact fun _ _ _=>.hole v h1
 |fz h=>exact fun _ _ _=>.fz (h.mono' hz)
 | sl A a n c sz rs vs hn hc hA dw a7 bd cq ih =>
  rename_i p m;intro s hp hs;refine .sl A a n c sz rs vs hn hc hA dw (fun e=>?_) (fun i row hi j d hj=>?_) (fun i row hi j d hj=>?_)
  ·obtain⟨h1,h2,h3⟩:=a7 e
   rw[hp]at h2;obtain⟨h4,h5⟩:=hs _ _ h2;refine⟨h1,h4,fun k hk=>?_⟩;obtain⟨u,hu,hf⟩:=h3 k hk;exact⟨u,(fA (w:=w) (w':=w') (by rw[add_block];exact h5)).trans hu,(kS (w:=w) (w':=w') (by rw[add_block];exact h5)).trans hf⟩
  ·rcases hA with e|⟨e,e'⟩
   ·obtain⟨h1,h2,h3⟩:=a7 e
    rw[hp]at h2;obtain⟨h4,h5⟩:=hs _ _ h2;exact (fA (w:=w) (w':=w') (by rw[add_block];exact h5)).trans (bd i row hi j d hj)
   ·exfalso
    have:i<rs.length:=by
     rcases Zbz i rs.length with h|h
     ·exact h
     ·simp[Ac0 h]at hi
    omega
  ·have:=ih i row hi j d hj (s++[i*sz+j]) (by rw[hp,Zbm]) hs
   rwa[<- Zbm]at this
theorem zN.mono {own own':Nat->Ow}{w w':World}{r r':Nat}:∀ (p q q':List Nat) (v u:Value),
  (∀ b t,own b=.slc r (q++t)->own' b=.slc r' (q'++t)/\w'.heap[b]?=w.heap[b]?)->zN own w r q v p u->zN own' w' r' q' v p u
 |[],_,_,_,_,_,h=>h
 | k :: p, q, q', v, u, hs, h => by
  obtain⟨a,n,c,u',rfl,ho,hc,hn⟩:=h;obtain⟨h1,h2⟩:=hs a.block [] (by simpa using ho);refine⟨a,n,c,u',rfl,by simpa using h1,(fA (w:=w) (w':=w') (by rw[add_block];exact h2)).trans hc,?_⟩
  exact zN.mono p (q++[k]) (q'++[k]) u' u (fun b t hb=>by
   have:=hs b (k::t) (by simpa using hb);simpa using this) hn
section
variable {σ ej:Nat->Option aS} {ρ:List D} {G G':Gh} {w w':World}
theorem Dam.mono (h:Fr σ G w ej G' w'){deps:List (Nat×Nat)}(hex:∀ z∈deps,jG σ z.1 z.2){v:Value}{d:D}{p:Pth}(hp:Dam σ ρ G w deps v d p):Dam ej ρ G' w' deps v d p:=by
 cases p with
 |no=>trivial
 | view =>
  intro r k m e hl;obtain⟨fw,ho⟩:=h.live r k m (hex (r,k) (by simp[e])) hl;have:=(hp r k m e fw).mono' (q:=[]) (q':=[]) h.frz [] rfl (fun b t hb=>⟨ho b t hb,(h.slc r k b _ fw.valid hl.valid hb).2⟩);simpa using this
 | suf sz lo =>
  intro r k m e hl;obtain⟨fw,ho⟩:=h.live r k m (hex (r,k) (by simp[e])) hl;rw[h.hdr r (hex (r,k) (by simp[e])).some];exact hp r k m e fw
 | path p =>
  intro r k m e hl;obtain⟨fw,ho⟩:=h.live r k m (hex (r,k) (by simp[e])) hl;obtain⟨h1,h2,h3⟩:=hp r k m e fw;have hs:∀ b t,G.own b=.slc r ([]++t)->G'.own b=.slc r ([]++t)/\w'.heap[b]?=w.heap[b]?:=fun b t hb=>⟨ho b t hb,(h.slc r k b _ fw.valid hl.valid hb).2⟩
  refine⟨h1,?_,?_⟩
  ·have:=h2.mono' (q:=[]) (q':=[]) h.frz _ rfl hs
   rw[List.nil_append]at this;exact this
  ·rw[h.hdr r (hex (r,k) (by simp[e])).some]
   exact h3.mono _ _ _ _ _ hs
theorem allow.mono (h:Fr σ G w ej G' w'){deps:List (Nat×Nat)}(hex:∀ z∈deps,jG σ z.1 z.2)(hv:∀ z∈deps,mE ej z.1 z.2){b:Nat}(hb:allow G deps b)(hlt:b<w.heap.size) :
  allow G' deps b/\w'.heap[b]?=w.heap[b]?:=by
 rcases hb with hb|⟨r,k,p,hm,hb⟩
 ·exact⟨.inl (h.frz b hb hlt).1,(h.frz b hb hlt).2⟩
 ·have y7:=hv (r,k) hm
  have:=h.slc r k b p (h.valid r k (hex (r,k) hm) y7) y7 hb;exact⟨this.1.elim (fun e=>.inr ⟨r,k,p,hm,e⟩) .inl,this.2⟩
mutual
theorem aB.mono (h:Fr σ G w ej G' w'):∀ (l:aR) (v:Value),aB σ ρ G w l v->aB ej ρ G' w' l v
 |.dead,_,hl=>by simpa[aB] using hl
 |.sc x,v,hl=>by simpa[aB] using hl
 |.su g x,v,hl=>by simpa[aB] using hl
 | .ex r, v, hl => by
  simp only[aB]at hl ⊢;exact⟨by rw[h.hdr r hl.2.1];exact hl.1,h.keep _ hl.2.1,hl.2.2⟩
 | .sn deps p nie x, v, hl => by
  simp only[aB]at hl ⊢;refine⟨⟨hl.1.1,fun z hz=>h.known _ _ (hl.1.2 z hz)⟩,fun hv=>?_⟩;obtain⟨h1,h2,h3⟩:=hl.2 (fun z hz=>h.valid _ _ (hl.1.2 z hz) (hv z hz));exact⟨h1.mono' fun b hb hlt=>allow.mono h hl.1.2 hv hb hlt,h2,h3.mono h hl.1.2⟩
 | .px b off, v, hl => by
  simp only[aB]at hl ⊢;exact⟨by rw[h.bx b hl.2];exact hl.1,h.keep _ hl.2⟩
 | .pe l sz i off, v, hl => by
  simp only[aB]at hl ⊢;obtain⟨a,n,c,k,iv,h1,h2⟩:=hl;exact⟨a,n,c,k,iv,aB.mono h l _ h1,h2⟩
 | .rp deps sz x, v, hl => by
  simp only[aB]at hl ⊢;refine⟨⟨hl.1.1,fun z hz=>h.known _ _ (hl.1.2 z hz)⟩,fun hv=>?_⟩
  rcases hl.2 (fun z hz=>h.valid _ _ (hl.1.2 z hz) (hv z hz)) with h1|⟨a,row,h1,h2,h3⟩
  ·exact .inl h1
  ·exact .inr ⟨a,row,h1,h2,h3.mono' fun b hb hlt=>allow.mono h hl.1.2 hv hb hlt⟩
 |.pn,v,hl=>by simpa[aB] using hl
 | .clo f fu, v, hl => by
  simp only[aB]at hl ⊢;obtain⟨vs,h1,h2⟩:=hl;exact⟨vs,h1,aG.mono h fu vs h2⟩
theorem aG.mono (h:Fr σ G w ej G' w'):∀ (ls:List aR) (vs:List Value),aG σ ρ G w ls vs->aG ej ρ G' w' ls vs
 |[],vs,hl=>by simpa[aG] using hl
 | l :: ls, vs, hl => by
  simp only[aG]at hl ⊢;obtain⟨u,us,e,h1,h2⟩:=hl;exact⟨u,us,e,aB.mono h l u h1,aG.mono h ls us h2⟩
end
theorem iP.mono (h:Fr σ G w ej G' w'):∀ (ts:List (Bool×List aR)) (us:List Value),iP σ ρ G w ts us->iP ej ρ G' w' ts us
 |[],_,ht=>ht
 | (a, ls) :: r, us, ht => by
  obtain⟨u,cW,vs,e,h1,h2,h3⟩:=ht;exact⟨u,cW,vs,e,aG.mono h ls vs h1,h2,iP.mono h r cW h3⟩
theorem cB.mono (h:Fr σ G w ej G' w'){v:SV}{u:Value}(hv:cB σ ρ G w v u):cB ej ρ G' w' v u:=by
 cases v with
 |dead=>trivial
 |one l=>exact aB.mono h l u hv
 |agg ls=>obtain⟨vs,e,h1⟩:=hv;exact⟨vs,e,aG.mono h ls vs h1⟩
 |tup ts=>obtain⟨us,e,h1⟩:=hv;exact⟨us,e,iP.mono h ts us h1⟩
end
def Uaz (σ:Nat->Option aS)(k:Nat)(c:aS):Nat->Option aS:=fun j=>if j=k then some c else σ j
def upds (σ:Nat->Option aS):List (Nat×aS)->Nat->Option aS
 |[]=>σ
 |(k,c)::r=>upds (Uaz σ k c) r
theorem pW:∀ (u:List (Nat×aS)) (σ:Nat->Option aS) (k:Nat) (c:aS),upds σ u k=some c->(k,c)∈u\/((∀ c',(k,c')∉u)/\σ k=some c)
 |[],σ,k,c,h=>.inr ⟨by simp,h⟩
 | (k', c') :: r, σ, k, c, h => by
  rcases pW r (Uaz σ k' c') k c h with h1|⟨h1,h2⟩
  ·exact .inl (Zbn _ h1)
  ·unfold Uaz at h2
   split at h2
   ·rename_i e
    obtain rfl:=Option.some.inj h2;exact .inl (by rw[e];exact Zbu)
   ·rename_i e
    refine .inr ⟨fun c'' hc=>?_,h2⟩
    rcases List.mem_cons.1 hc with h3|h3
    ·exact e (Prod.mk.inj h3).1
    ·exact h1 _ h3
theorem eU:∀ (u:List (Nat×aS)) (σ:Nat->Option aS) (k:Nat),(∀ c,(k,c)∉u)->upds σ u k=σ k
 |[],_,_,_=>rfl
 | (k', c') :: r, σ, k, h => by
  rw[upds,eU r _ k fun c hc=>h c (Zbn _ hc)];unfold Uaz;rw[if_neg];intro e;exact h c' (by rw[e];exact Zbu)
theorem eD:∀ (u:List (Nat×aS)) (σ:Nat->Option aS) (k:Nat),(σ k).isSome\/(∃ c,(k,c)∈u)->(upds σ u k).isSome
 | [], σ, k, h => by
  rcases h with h|⟨c,hc⟩
  ·exact h
  ·simp at hc
 | (k', c') :: r, σ, k, h => by
  refine eD r _ k ?_;unfold Uaz
  rcases h with h|⟨c,hc⟩
  ·exact .inl (by split<;>simp_all)
  ·rcases List.mem_cons.1 hc with h1|h1
   ·exact .inl (by rw[if_pos (Prod.mk.inj h1).1];rfl)
   ·exact .inr ⟨c,h1⟩
section
variable {n:Nat} {F:bH} {σ:Nat->Option aS} {ρ:List D} {a a':Act} {w w':World} {G G':Gh}
theorem R.upd (h:R n F σ ρ a w G)(u:List (Nat×aS))(eu:Fr σ G w (upds σ u) G' w')(dw:a'.tmps.size=n)(hd:a'.defers=[])
  (hF:mP F G' w')
  (htm:∀ t,(∀ c,(kT t,c)∉u)->Bae n a' F.gh t=Bae n a F.gh t)
  (gi:∀ b ro ls,σ (kB b)=some (.box ro ls)->(∀ c,(kB b,c)∉u)->G'.own (G.bx b).block=G.own (G.bx b).block/\w'.heap[(G.bx b).block]?=w.heap[(G.bx b).block]?)
  (wo:∀ b ls,(kB b,.box false ls)∈u->(G'.bx b).block<F.w0.heap.size->F.own0 (G'.bx b).block=.box b->F.rng b=((G'.bx b).off,(G'.bx b).off+ls.length))
  (gw:∀ k c,(k,c)∈u->upds σ u k=some c->Cb1 n F.gh (upds σ u) ρ G' a' w' k c):R n F (upds σ u) ρ a' w' G':=by
 refine⟨dw,hd,fun k c hk=>?_,hF,fun b ls hk hb ho=>?_⟩
 ·rcases pW u σ k c hk with h1|⟨h1,h2⟩
  ·exact gw k c h1 hk
  ·cases c with
   | slot g v =>
    obtain⟨t,rfl,hv⟩:=h.cont k _ h2;refine⟨t,rfl,fun hg=>?_⟩;rw[htm t h1];exact (hv hg).mono eu
   | box ro ls =>
    obtain⟨b,rfl,h3,h4,h5⟩:=h.cont k _ h2;obtain⟨h6,h7⟩:=gi b ro ls h2 h1;have e:G'.bx b=G.bx b:=eu.bx b (by rw[h2];rfl);refine⟨b,rfl,by rw[e];exact h3,by rw[e,h6];exact h4,fun j l hj=>?_⟩;obtain⟨v,h8,h9,cL⟩:=h5 j l hj;rw[e];exact⟨v,(fA (w:=w) (w':=w') (by rw[add_block];exact h7)).trans h8,(kS (w:=w) (w':=w') (by rw[add_block];exact h7)).trans h9,aB.mono eu l v cL⟩
   | root x m bc st =>
    obtain⟨r,rfl,h0,h3⟩:=h.cont k _ h2;refine⟨r,rfl,eu.keep _ h0,?_⟩;have e:G'.hdr r=G.hdr r:=eu.hdr r h0
    cases st with
    | live =>
     have fw:zF (upds σ u) r bc m:=⟨x,hk⟩;obtain⟨hl,ho⟩:=eu.live r bc m ⟨x,m,bc,.live,h2,fun _=>Nat.le_refl _⟩ fw;have:=Rp.mono' (q:=[]) (q':=[]) h3 eu.frz [] rfl (fun b t hb=>⟨ho b t hb,(eu.slc r bc b _ hl.valid fw.valid hb).2⟩);simp only[bS];rw[e];simpa using this
    | frozen =>
     simp only[bS];rw[e];exact⟨h3.1.mono' eu.frz,fun b p hb=>h3.2 b p (eu.froz r x m bc h2 b p hb)⟩
    |gone=>trivial
    | fwd r' =>
     obtain⟨h4,h5⟩:=h3;exact⟨by rw[e,eu.hdr r' h5];exact h4,eu.keep _ h5⟩
 ·rcases pW u σ _ _ hk with h1|⟨h1,h2⟩
  ·exact wo b ls h1 hb ho
  ·have e:G'.bx b=G.bx b:=eu.bx b (by rw[h2];rfl)
   rw[e]at hb ho ⊢;exact h.rng b ls h2 hb ho
theorem Ba7 (a:Act)(d:Option Tmp)(v:Value):(a.put d v).tmps.size=a.tmps.size:=by
 cases d<;>simp[Act.put]
theorem put_defers (a:Act)(d:Option Tmp)(v:Value):(a.put d v).defers=a.defers:=by
 cases d<;>simp[Act.put]
theorem Hac (n:Nat)(a:Act)(G:Nat->Value)(d t:Nat)(v:Value)(h:d≠t):Bae n (a.put (some d) v) G t=Bae n a G t:=by
 unfold Bae;split
 ·simp[Act.put,Ack,Array.getElem?_setIfInBounds,h]
 ·rfl
theorem oC (n:Nat)(a:Act)(G:Nat->Value)(d:Nat)(v:Value)(h:d<n)(hs:a.tmps.size=n):Bae n (a.put (some d) v) G d=v:=by
 unfold Bae;rw[if_pos h];simp[Act.put,Ack,hs,h]
theorem Fr.same (σ:Nat->Option aS)(G:Gh)(w:World)(u:List (Nat×aS))(hu:∀ k c,(k,c)∈u->∃ t,k=kT t):Fr σ G w (upds σ u) G w:=by
 have hr:∀ r,upds σ u (kR r)=σ (kR r):=fun r=>eU _ _ _ fun c hc=>by obtain⟨t,e⟩:=hu _ _ hc;exact iU e.symm
 refine⟨fun b h _=>⟨h,rfl⟩,fun r k _ h=>?_,fun r k h=>?_,fun r k b p _ _ h=>⟨.inl h,rfl⟩,fun r k m _ h=>⟨?_,fun b p h=>h⟩,fun _ _=>rfl,fun _ _=>rfl,fun k h=>eD _ _ _ (.inl h),fun _ _ _ _ _ _ _ h=>h⟩
 ·obtain⟨x,m,st,e,h⟩:=h
  exact⟨x,m,st,by rw[<- hr];exact e,h⟩
 ·obtain⟨x,m,bc,st,e,h⟩:=h
  exact⟨x,m,bc,st,by rw[hr];exact e,h⟩
 ·obtain⟨x,e⟩:=h
  exact⟨x,by rw[<- hr];exact e⟩
def dW (o:Oper)(g:Option (aL×Bool))(v:SV):List (Nat×aS):=match o.dst with|some d=>[(kT d,.slot g v)]|none=>[]
theorem R.pure (h:R n F σ ρ a w G)(o:Oper)(hd:∀ d,o.dst=some d->d<n)(g:Option (aL×Bool))(sv:SV)(v:Value)
  (hv:gOn ρ g=true->cB σ ρ G w sv v):R n F (upds σ (dW o g sv)) ρ (a.put o.dst v) w G:=by
 have eu:Fr σ G w (upds σ (dW o g sv)) G w:=Fr.same _ _ _ _ fun k c hk=>by
  unfold dW at hk;split at hk
  ·rename_i d e
   simp only[Zbp,Prod.mk.injEq]at hk;exact⟨d,hk.1⟩
  ·simp at hk
 refine h.upd _ eu (by rw[Ba7];exact h.tmps) (by rw[put_defers];exact h.defers) h.frame (fun t ht=>?_) (fun _ _ _ _ _=>⟨rfl,rfl⟩) (fun b ls hb=>?_) (fun k c hk kb=>?_)
 ·unfold dW at ht
  cases e:o.dst with
  |none=>rfl
  | some d =>
   rw[e]at ht;exact Hac _ _ _ _ _ _ fun e'=>ht _ (by rw[e'];exact List.mem_singleton.2 rfl)
 ·unfold dW at hb
  split at hb
  ·simp only[Zbp,Prod.mk.injEq]at hb
   exact absurd hb.1.symm lT
  ·simp at hb
 ·have y5:=hk
  unfold dW at hk
  cases e:o.dst with
  |none=>rw[e]at hk;simp at hk
  | some d =>
   rw[e]at hk;simp only[Zbp,Prod.mk.injEq]at hk;obtain⟨rfl,rfl⟩:=hk;refine⟨d,rfl,fun hg=>?_⟩;rw[oC _ _ _ _ _ (hd d e) h.tmps];exact (hv hg).mono eu
end
end Go.Proofs.YtcbkmmhkccnamaaGreat.Rf
