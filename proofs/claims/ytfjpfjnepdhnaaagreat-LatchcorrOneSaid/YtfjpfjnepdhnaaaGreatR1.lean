/- . -/
import Derived.Calls
import Derived.KernelRfl
import Derived.Orders
import Derived.Laws.World
import Derived.Laws.Cells
import Derived.Laws.AppendOwn
import Derived.Laws.Entries
import Derived.Laws.StructEq
import Derived.Laws.Slices
import Derived.Laws.MakeOwn
import Derived.Laws.CopyRow
import Derived.ChangeArms
import Derived.DataReads
import Derived.SizedLaws
import Derived.Below
import Derived.Carry
namespace Go.Proofs.YtfjpfjnepdhnaaaGreat
open Go Go.RowKit
abbrev aj:=@Option.bind_some
abbrev aa:=@if_pos
abbrev ab:=@if_neg
abbrev c6:=@List.getElem?_eq_getElem
abbrev eJ:=@Bool.and_eq_true
abbrev dD:=@Nat.le_refl
abbrev ey:=@List.length_append
abbrev iB:=@List.getD_eq_getElem?_getD
abbrev gC:=@List.length_singleton
abbrev fQ:=@List.mem_singleton
abbrev dW:=@List.getElem_mem
abbrev ir:=@decide_eq_true_eq
abbrev tS:=@List.eq_nil_of_length_eq_zero
abbrev su:=@List.getElem?_append_left
abbrev jI:=@List.mem_cons_of_mem
abbrev eR:=@List.mem_cons
abbrev qA:=@List.getElem?_eq_none
abbrev ix:=@List.mem_cons_self
abbrev vw:=@List.getElem?_append_right
abbrev tR:=@List.getElem?_eq_some_iff
abbrev lD:=@List.drop_of_length_le
abbrev iQ:=@Nat.lt_or_ge
abbrev jm:=@Int.toNat_natCast
abbrev og:=@Classical.byContradiction
abbrev s8:=@Option.some.injEq
abbrev uY:=@Nat.lt_of_lt_of_le
abbrev lE:=@List.length_take
abbrev jR:=@List.mem_append
abbrev F8:=@Array.getElem?_push_size
abbrev xN:=@Nat.eq_of_beq_eq_true
abbrev Iq:=@Go.RowKit.Below.heap_alloc
abbrev kz:=@Nat.le_trans
abbrev rN:=@List.nodup_nil
abbrev u9:=@Go.Result.andThen_ok
abbrev uR:=@Option.some.inj
abbrev nh:=@List.any_eq_true
abbrev HU:=@Go.World.cell?_of_block
abbrev qz:=@List.length_replicate
abbrev kp:=@decide_eq_true
abbrev GJ:=@Go.RowKit.Below.heap_setCell
abbrev jH:=@List.drop_zero
abbrev jC:=@List.mem_map
abbrev pI:=@List.length_cons
abbrev uQ:=@List.all_eq_true
abbrev uf:=@List.mem_append_left
abbrev uX:=@Go.run_underlying
abbrev lY:=@List.length_set
abbrev yk:=@Nat.mul_le_mul_right
abbrev s7:=@List.append_nil
abbrev xd:=@List.pairwise_iff_getElem
abbrev pD:=@cond_true
abbrev mM:=@congrArg
abbrev pd:=@decide_eq_false
abbrev p6:=@List.mem_filter
abbrev u7:=@Go.Sem.run_bind
abbrev uW:=@of_decide_eq_true
abbrev Qu:=@beq_false_of_ne
abbrev pH:=@List.length_map
abbrev Dl:=@Go.Value.slice.injEq
abbrev ue:=@List.foldl_cons
abbrev uP:=@cond_false
abbrev Ip:=@List.getElem?_cons_zero
abbrev zI:=@List.nodup_cons
abbrev D5:=@List.getElem?_take
abbrev JQ:=@Go.World.block_lt_of_cell?
abbrev Dw:=@List.append_assoc
abbrev JP:=@Nat.le_of_ble_eq_true
abbrev D4:=@List.mem_append_right
abbrev xe:=@List.map_cons
abbrev xg:=@List.pairwise_cons
abbrev D3:=@List.nodup_append
abbrev zH:=@List.getElem?_set
abbrev xM:=@List.take_length
abbrev F7:=@List.length_drop
abbrev LV:=@Option.map_eq_some_iff
abbrev BQ:=@List.take_of_length_le
abbrev Ad:=@Nat.add_mul
abbrev NK:=@Array.getElem?_eq_some_iff
abbrev Dv:=@decide_eq_false_iff_not
abbrev HR:=@List.any_eq_false
abbrev Ac:=@List.nil_append
abbrev Du:=@Bool.or_eq_true
abbrev yj:=@Bool.true_and
abbrev Dt:=@Go.Sem.run_pure
abbrev LU:=@Go.IntKind.wrap_i64
abbrev yC:=@List.mem_range
abbrev Ku:=@List.getElem?_drop
abbrev Dk:=@Nat.zero_add
abbrev GI:=@Go.RowKit.Below.refl
abbrev Dj:=@List.getElem_of_mem
abbrev Im:=@List.cons.injEq
abbrev BP:=@List.take_add_one
abbrev Rc:=@Go.World.frozen?_of_block
abbrev Pn:=@Array.getD_eq_getD_getElem?
abbrev Pm:=@Array.getElem?_setIfInBounds_ne
abbrev sq:=@if_true
abbrev Ds:=@Nat.add_zero
abbrev BR:=@Bool.eq_iff_iff
abbrev AR:=@List.prefix_refl
abbrev N7:=@Int.eq_ofNat_of_zero_le
abbrev Kv:=@List.getElem?_map
abbrev NL:=@List.mem_of_getElem?
abbrev Po:=@List.getElem?_replicate_of_lt
abbrev Io:=@List.getElem_cons_drop
abbrev N6:=@List.append_eq_nil_iff
abbrev OU:=@Array.getElem?_eq_none
abbrev E3:=@List.length_nil
abbrev GH:=@Bool.false_and
abbrev Di:=@List.getElem_take
abbrev LQ:=@List.ext_getElem?
abbrev Kt:=@List.getElem?_replicate
abbrev Dr:=@decide_eq_decide
abbrev Dq:=@beq_iff_eq
abbrev Mt:=@List.length_pos_iff
abbrev D1:=@List.pairwise_map
abbrev N5:=@List.take_append_drop
abbrev HQ:=@List.mem_of_mem_take
abbrev HP:=@List.forall_mem_cons
abbrev Ms:=@Bool.or_eq_false_iff
abbrev OT:=@Array.length_toList
abbrev OS:=@Option.map_some
abbrev Ks:=@Nat.zero_le
abbrev Pl:=@List.getElem?_toArray
abbrev JN:=@List.eq_nil_or_concat
abbrev JM:=@List.concat_eq_append
abbrev JL:=@Option.getD_some
abbrev NH:=@Nat.eq_zero_or_pos
abbrev Kr:=@List.cons_append
abbrev OR:=@Bool.false_eq_true
abbrev JK:=@Array.ext'
abbrev N4:=@List.take_append_of_le_length
abbrev N3:=@Prod.mk.injEq
abbrev Mr:=@Go.Addr.add_lit
abbrev Qa:=@Array.getElem?_toList
abbrev Qt:=@List.drop_eq_getElem_cons
abbrev Il:=@List.map_append
abbrev NJ:=@getElem!_pos
abbrev NI:=@Nat.mul_one
abbrev Mu:=@Nat.beq_refl
abbrev LS:=@List.pairwise_append
abbrev LR:=@List.mem_iff_getElem
abbrev JO:=@List.map_nil
abbrev Pj:=@List.foldl_append
abbrev Qq:=@Option.isSome_iff_exists
abbrev Ik:=@Bool.false_or
abbrev P9:=@List.filterMap_cons
abbrev Kq:=@Nat.lt_succ_self
abbrev JI:=@List.take_zero
abbrev Ij:=@Ne.symm
abbrev NF:=@List.pairwise_lt_range
abbrev ND:=@List.filter_eq_nil_iff
abbrev Qp:=@List.drop_eq_nil_of_le
abbrev P8:=@BitVec.toNat_ofInt
abbrev Rb:=@List.mem_zipIdx_iff_getElem?
abbrev NC:=@List.any_cons
abbrev Qo:=@Array.getElem?_modify
abbrev P7:=@Go.run_loadVar_row
abbrev Mp:=@List.take_sublist
abbrev P6:=@List.size_toArray
abbrev P5:=@List.flatten_cons
abbrev Ko:=@and_true
abbrev Qn:=@Go.World.ownsRow_nil
abbrev P4:=@List.getElem?_of_mem
abbrev Ph:=@Int.fdiv_eq_ediv_of_nonneg
abbrev LO:=@Nat.le_add_right
abbrev NB:=@List.filter_cons
abbrev Mq:=@List.ext_getElem
abbrev RT:=@Array.getElem?_eq_getElem
abbrev NG:=@Nat.add_assoc
abbrev OQ:=@List.getElem_append_left
abbrev Qs:=@List.getElem?_take_of_lt
abbrev OP:=@List.all_cons
abbrev OO:=@List.Pairwise.imp_of_mem
abbrev JJ:=@Bool.and_true
abbrev Qr:=@Go.run_firstCells_some
abbrev Pk:=@Nat.min_eq_left
abbrev LN:=@Nat.le_add_left
abbrev NZ:=@List.range_succ
abbrev NY:=@decide_eq_true_iff
abbrev Qm:=@List.mem_filterMap
abbrev Q9:=@Option.bind_eq_some_iff
abbrev JH:=@if_false
abbrev OM:=@Go.getD_set_ne
abbrev OL:=@List.getElem_cons_succ
abbrev Nz:=@List.Sublist.refl
abbrev Ql:=@Bool.not_eq_true'
abbrev P0:=@Go.bodyPost_ret
abbrev Pg:=@List.length_filter_le
abbrev Ny:=@forall_eq_or_imp
abbrev LM:=@List.sum_cons
abbrev Pf:=@Bool.and_self
abbrev OK:=@Nat.add_le_add_right
abbrev OJ:=@List.length_dropLast
abbrev Qk:=@List.getElem?_append
abbrev LK:=@Int.le_refl
abbrev PZ:=@List.mem_map_of_mem
abbrev Q8:=@Array.getElem?_push
abbrev Q7:=@Nat.sub_self
abbrev Q6:=@Go.run_firstCells_none
abbrev SH:=@Go.World.grownBy_alloc
abbrev OI:=@Option.toList_some
abbrev NA:=@List.take_take
abbrev Rr:=@Int.tdiv_eq_ediv_of_nonneg
abbrev Rq:=@Array.getElem?_append_left
abbrev ON:=@Go.mem_ready
abbrev Rp:=@List.sublist_append_right
abbrev Ro:=@List.sublist_append_left
abbrev P3:=@Bool.not_true
abbrev P2:=@Go.setRow_heap
abbrev Ra:=@Go.run_storeCells_at
abbrev P1:=@Go.run_program
abbrev Pe:=@List.not_mem_nil
abbrev PW:=@List.length_eq_zero_iff
abbrev Q4:=@BitVec.toNat_xor
abbrev Qj:=@List.all_append
abbrev OH:=@Int.natCast_add
abbrev OG:=@List.foldl_nil
abbrev PV:=@List.dropLast_concat
abbrev PU:=@List.map_congr_left
abbrev Q3:=@List.getElem?_range
abbrev OF:=@Nat.lt_irrefl
abbrev RS:=@List.set_cons_zero
abbrev PT:=@List.prefix_append
abbrev Q2:=@List.filter_append
abbrev Rn:=@Array.ext_getElem?
abbrev Rm:=@Array.empty_append
abbrev RR:=@List.findIdx?_eq_some_iff_getElem
abbrev Q1:=@Nat.zero_mul
abbrev Qi:=@List.take_succ_eq_append_getElem
abbrev OE:=@Int.add_zero
abbrev Rl:=@Go.grownCap_le_maxLen
abbrev Rk:=@Nat.min_le_right
abbrev Rj:=@List.mem_toArray
abbrev PS:=@Int.min_eq_right
abbrev PR:=@Int.max_eq_right
abbrev Q5:=@BitVec.toNat_and
abbrev PY:=@Int.min_eq_left
abbrev PX:=@Int.max_eq_left
abbrev Ll:=List (List Int)
abbrev Lp:=List (Int×Int)
abbrev Li:=List Int
abbrev Ln:=List Nat
abbrev Lb:=List Bool
end Go.Proofs.YtfjpfjnepdhnaaaGreat
namespace Go.Proofs.YtfjpfjnepdhnaaaGreat.R
open Go
set_option linter.unusedVariables false
set_option linter.unusedSimpArgs false
section
inductive Ty where
 |int (k:IntKind)|bool|list (e:Ty)|pair (a b:Ty)
 deriving DecidableEq
@[reducible] def Ty.den:Ty->Type
 |.int _=>Int
 |.bool=>Bool
 |.list e=>List e.den
 |.pair a b=>a.den×b.den
def Ty.size:Ty->Nat
 |.pair a b=>a.size+b.size
 |_=>1
def Ty.zero:(τ:Ty)->τ.den
 |.int _=>(0:Int)
 |.bool=>false
 |.list _=>[]
 |.pair a b=>(a.zero,b.zero)
def zc:(τ:Ty)->τ.den->Nat->(σ:Ty)->Option σ.den
 |.pair a b,v,o,σ=>
  if h:o=0/\Ty.pair a b=σ then some (h.2▸v)
  else if o<a.size then zc a v.1 o σ else zc b v.2 (o-a.size) σ
 |τ,v,o,σ=>if h:o=0/\τ=σ then some (h.2▸v) else none
def setAt:(τ:Ty)->τ.den->Nat->(σ:Ty)->σ.den->Option τ.den
 |.pair a b,v,o,σ,x=>
  if h:o=0/\σ=Ty.pair a b then some (h.2▸x)
  else if o<a.size then(setAt a v.1 o σ x).map fun y=>(y,v.2) else(setAt b v.2 (o-a.size) σ x).map fun y=>(v.1,y)
 |τ,_,o,σ,x=>if h:o=0/\σ=τ then some (h.2▸x) else none
def mR:Nat:=68719476736
def aD{α:Type}(l:List α)(i:Int):Option α:=if 0<=i then l[i.toNat]? else none
def kb{α:Type}(l:List α)(lo hi:Int):Option (List α):=if 0<=lo/\lo<=hi/\hi<=(l.length:Int) then some ((l.take hi.toNat).drop lo.toNat) else none
def app{α:Type}(l m:List α):Option (List α):=if l.length+m.length<=mR then some (l++m) else none
def Bm{α:Type}(n:Int)(v:α):Option (List α):=if 0<=n/\n<=(mR:Int) then some (List.replicate n.toNat v) else none
def HW(b:Bool):Option Unit:=if b then some () else none
def lim{α β:Type}(f:List α->β)(l:List α):Option β:=if l.length<=mR then some (f l) else none
def tG{α:Type}(l:List α)(i j:Int):Option (List α):=if 0<=i/\i<=j/\j<=(l.length:Int)/\l.length<=mR then some (l.take i.toNat++l.drop j.toNat) else none
def iu(κ:IntKind)(a b:Int):Int:=κ.wrap ((BitVec.ofInt κ.bits a&&&BitVec.ofInt κ.bits b).toNat:Int)
def RX(κ:IntKind)(a b:Int):Int:=κ.wrap ((BitVec.ofInt κ.bits a|||BitVec.ofInt κ.bits b).toNat:Int)
def dj(κ:IntKind)(a b:Int):Int:=κ.wrap ((BitVec.ofInt κ.bits a^^^BitVec.ofInt κ.bits b).toNat:Int)
def O2(κ:IntKind)(a b:Int):Int:=κ.wrap ((BitVec.ofInt κ.bits a &&& ~~~(BitVec.ofInt κ.bits b)).toNat:Int)
def QD(κ:IntKind)(a b:Int):Int:=κ.wrap (a*2^(min b.toNat κ.bits))
def gT(κ:IntKind)(a b:Int):Int:=a.fdiv (2^(min b.toNat κ.bits))
inductive Sh where
 |d (τ:Ty)|own (τ:Ty)|agg (a b:Sh)
 deriving DecidableEq
inductive Mode where
 |ro|mv (s:Sh)|io (s:Sh)
@[reducible] def Sh.den:Sh->Type
 |.d τ=>τ.den
 |.own τ=>List τ.den
 |.agg a b=>a.den×b.den
@[reducible] def eU:List Sh->Type
 |[]=>Unit
 |[s]=>s.den
 |s::t=>s.den×eU t
inductive AV where
 |any|non
 |d (τ:Ty) (v:τ.den)
 |nil
 |full (τ:Ty) (l:List τ.den)
 |new (τ:Ty) (l:List τ.den)
 |ow (key:Nat)
 |own (key off len:Nat)
 |arr (n:Nat) (τ:Ty) (l:List τ.den)
 |narr (n:Nat) (τ:Ty) (l:List τ.den)
 |ptr (key off:Nat)
 |ap (key n:Nat)
 |rop (τ:Ty) (v:τ.den)
 |rptr (key j off:Nat)
 |nbox (cs:List AV)
 |agg (cs:List AV)
 |tup (vs:List AV)
 |fn (f:FuncId) (caps:List AV)
inductive Ob where
 |row (τ:Ty) (l:List τ.den)
 |box (cs:List AV)
abbrev cW:=List (Nat×Ob)
def al{α:Type}:List (Nat×α)->Nat->Option α
 |[],_=>none
 |(k,x)::r,n=>bif Nat.beq k n then some x else al r n
def fx{α:Type}:List (Nat×α)->Nat->α->List (Nat×α)
 |[],_,_=>[]
 |(k,x)::r,n,y=>bif Nat.beq k n then(k,y)::r else(k,x)::fx r n y
def fW{α:Type}:List (Nat×α)->Nat->List (Nat×α)
 |[],_=>[]
 |(k,x)::r,n=>bif Nat.beq k n then fW r n else(k,x)::fW r n
inductive Xt where
 |inplace (τ:Ty) (f:List τ.den->List τ.den) (c:Option FuncId)
 |take (τ:Ty) (f:List τ.den->List τ.den)
 |cut (τ:Ty)
 |calc (f:List (Nat×Ob)->List AV->Option (Bool×AV))
abbrev bC:=FuncId->List AV->(s:List Sh)->Option (eU s)
def xf(C:bC)(Cn:Nat->bC):Prop:=∀g xs s z,C g xs s=some z->∃n,∀m,n<=m->Cn m g xs s=some z
structure HK where
 run:bC->List AV->(s:List Sh)->Option (eU s)
 near:∀{C:bC} {Cn:Nat->bC},xf C Cn->∀xs s z,run C xs s=some z->∃n,∀m,n<=m->run (Cn m) xs s=some z
structure Env where
 ty:List (Nat×Ty)
 fs:List (Nat×(Nat×List (Nat×Nat)))
 ar:List (Nat×(Nat×Ty))
 ot:List (Nat×Unit)
 sg:List (Nat×(List Mode×List Sh))
 fn:List (Nat×Func)
 cl:List (Nat×Ty)
 live:List (Nat×List (Nat×Ln))
 frz:List (Nat×List (Nat×Ln))
 cut:List (Nat×List (Nat×Nat))
 gr:List (Nat×Ty)
 so:List (Nat×Xt)
 hk:List (Nat×HK):=[]
 eq:List (Nat×Unit):=[]
variable {R:Type}
def nM:(τ:Ty)->τ.den->List AV
 |.pair a b,v=>nM a v.1++nM b v.2
 |τ,v=>[.d τ v]
def cellsOf:AV->List AV
 |.agg cs=>cs
 |.d τ v=>nM τ v
 |.arr _ _ _=>[]
 |.any=>[]
 |.tup _=>[]
 |v=>[v]
def Ew:AV->Bool
 |.any|.non|.agg _|.tup _|.fn _ _|.nbox _|.arr _ _ _=>false
 |.d (.pair _ _) _=>false
 |_=>true
def J8:AV->Option (List AV)
 |.agg cs=>some cs
 |.d (.pair a b) v=>some (nM (.pair a b) v)
 |_=>none
def xk:AV->Bool
 |.agg _|.tup _|.fn _ _|.nbox _=>false
 |_=>true
def nG:AV->Bool
 |.agg _|.tup _|.fn _ _|.nbox _|.new _ _|.narr _ _ _=>false
 |_=>true
def zeroCells(τ:Ty):List AV:=
 match τ with
 |.pair a b=>zeroCells a++zeroCells b
 |.list _=>[.nil]
 |τ=>[.d τ τ.zero]
def Env.zeroOf(E:Env)(t:TypeId):Option (List AV):=(al E.ty t).map zeroCells
def cN{α:Type}(l:List α)(off len:Nat):List α:=(l.drop off).take len
def pr(ob:cW)(e:Ty)(v:AV)(k:List e.den->Option R):Option R:=
 match v with
 |.nil=>k []
 |.d (.list σ) l=>if h:σ=e then k (h▸l) else none
 |.full σ l=>if h:σ=e then k (h▸l) else none
 |.new σ l=>if h:σ=e then k (h▸l) else none
 |.ow key=>match al ob key with
  |some (.row σ l)=>if h:σ=e then k (h▸l) else none
  |_=>none
 |.own key off len=>match al ob key with
  |some (.row σ l)=>if h:σ=e then k (h▸cN l off len) else none
  |_=>none
 |_=>none
def da(ob:cW)(ow:Bool):(τ:Ty)->List AV->(τ.den->List AV->Option R)->Option R
 |.pair a b,cs,k=>da ob ow a cs fun x cs=>da ob ow b cs fun y cs=>k (x,y) cs
 |.list e,c::cs,k=>match ow,c with
  |false,.ow _=>none
  |false,.own _ _ _=>none
  |_,c=>pr ob e c fun l=>k l cs
 |τ,c::cs,k=>match c with
  |.d σ v=>if h:σ=τ then k (h▸v) cs else none
  |_=>none
 |_,[],_=>none
def H5(ob:cW)(ow:Bool)(τ:Ty)(v:AV)(k:τ.den->Option R):Option R:=
 match v with
 |.agg _=>none
 |v=>da ob ow τ [v] fun x r=>match r with|[]=>k x|_=>none
def Kg(ob:cW)(ow:Bool)(τ:Ty)(v:AV)(k:τ.den->Option R):Option R:=
 match τ,k with
 |.pair a b,k=>da ob ow (.pair a b) (cellsOf v) fun x r=>match r with|[]=>k x|_=>none
 |τ,k=>H5 ob ow τ v k
def xr(v:AV)(k:Bool->Option R):Option R:=match v with|.d .bool b=>k b|_=>none
def ux(v:AV)(k:IntKind->Int->Option R):Option R:=match v with|.d (.int κ) n=>k κ n|_=>none
def xU:Ty->Bool
 |.pair _ _=>true
 |_=>false
def pairUp:List AV->Option ((τ:Ty)×τ.den)
 |[]=>none
 |.d τ v::r=>bif xU τ then none else match r with
  |[]=>some ⟨τ,v⟩
  |r=>(pairUp r).map fun x=>⟨.pair τ x.1,(v,x.2)⟩
 |_=>none
def Bl(ob:cW)(key off:Nat):AV:=
 match al ob key with
 |some (.box cs)=>match(bif Nat.beq off 0&&Nat.ble 2 cs.length then pairUp cs else none) with
  |some x=>.rop x.1 x.2
  |none=>match cs[off]? with
   |some (.d τ v)=>bif xU τ then .any else .rop τ v
   |some (.ow key)=>match al ob key with
    |some (.row σ l)=>.rop (.list σ) l
    |_=>.any
   |_=>.any
 |_=>.any
def JV(ob:cW):AV->AV
 |.d τ v=>.d τ v
 |.rop τ v=>.rop τ v
 |.ptr key off=>Bl ob key off
 |_=>.any
def FR(τ:Ty)(v:τ.den):AV:=
 match τ,v with
 |.pair a b,v=>.agg (nM (.pair a b) v)
 |τ,v=>.d τ v
def Jl(E:Env)(ob:cW)(t:TypeId)(v:AV)(k:AV->Option R):Option R:=
 match al E.ty t with
 |some τ=>Kg ob true τ v fun x=>k (FR τ x)
 |none=>match v with
  |.fn f caps=>k (.fn f (caps.map (JV ob)))
  |.ptr key off=>k (Bl ob key off)
  |.rop τ v=>k (.rop τ v)
  |.arr n τ l=>match al E.ar t with
   |some (m,e)=>bif Nat.beq m n&&decide (e=τ) then k (.arr n τ l) else none
   |none=>none
  |_=>none
def xu(E:Env)(ob:cW):List TypeId->List AV->(List AV->Option R)->Option R
 |t::ts,v::vs,k=>Jl E ob t v fun x=>xu E ob ts vs fun xs=>k (x::xs)
 |[],[],k=>k []
 |_,_,_=>none
def Dm:(s:Sh)->s.den->List AV
 |.d τ,v=>nM τ v
 |.own τ,l=>[.new τ l]
 |.agg a b,v=>Dm a v.1++Dm b v.2
def nY:(s:Sh)->s.den->AV
 |.d τ,v=>.d τ v
 |.own τ,l=>.new τ l
 |.agg a b,v=>.agg (Dm a v.1++Dm b v.2)
def gL:(s:List Sh)->eU s->List AV
 |[],_=>[]
 |[s],v=>[nY s v]
 |s::t::r,v=>nY s v.1::gL (t::r) v.2
def lQ(s:List Sh)(v:eU s):AV:=
 match gL s v with
 |[x]=>x
 |xs=>.tup xs
def Ty.hasList:Ty->Bool
 |.list _=>true
 |.pair a b=>a.hasList||b.hasList
 |_=>false
def Sh.hasList:Sh->Bool
 |.d τ=>τ.hasList
 |.own τ=>τ.hasList
 |.agg a b=>a.hasList||b.hasList
def Mode.isRo:Mode->Bool
 |.ro=>true
 |_=>false
def df:List Mode->List Sh
 |[]=>[]
 |.io s::r=>s::df r
 |_::r=>df r
def eP:(s t:List Sh)->eU (s++t)->eU s×eU t
 |[],_,v=>((),v)
 |[_],[],v=>(v,())
 |[_],_::_,v=>(v.1,v.2)
 |_::b::r,t,v=>let (x,y):=eP (b::r) t v.2;((v.1,x),y)
def IY(op:BinOp)(a b:Int):Option Bool:=
 match op with
 |.eql=>some (a==b)
 |.neq=>some (a != b)
 |.lss=>some (decide (a<b))
 |.leq=>some (decide (a<=b))
 |.gtr=>some (decide (a>b))
 |.geq=>some (decide (a>=b))
 |_=>none
def tf:AV->Option ((IntKind×Int)×(IntKind×Int))
 |.d (.pair (.int κ) (.int κ')) v=>some ((κ,v.1),(κ',v.2))
 |.agg [.d (.int κ) a,.d (.int κ') b]=>some ((κ,a),(κ',b))
 |_=>none
def tX(E:Env)(op:BinOp)(xt:TypeId)(x y:AV)(k:AV->Option R):Option R:=
 match tf x,tf y with
 |some p,some q=>bif decide (p.1.1=q.1.1)&&decide (p.2.1=q.2.1)&&decide (al E.ty xt=some (.pair (.int p.1.1) (.int p.2.1)))&&(al E.eq xt).isSome then
   match op with
   |.eql=>k (.d .bool (p.1.2==q.1.2&&p.2.2==q.2.2))
   |.neq=>k (.d .bool (!(p.1.2==q.1.2&&p.2.2==q.2.2)))
   |_=>none
  else none
 |_,_=>none
def FU(E:Env)(ob:cW)(op:BinOp)(xt:TypeId)(x y:AV)(k:AV->Option R):Option R:=
 match x,y with
 |.d (.int κ) a,.d (.int κ') b=>
  match op with
  |.shl=>bif decide (b<0) then none else k (.d (.int κ) (QD κ a b))
  |.shr=>bif decide (b<0) then none else k (.d (.int κ) (gT κ a b))
  |op=>if κ=κ' then match op with
   |.add=>k (.d (.int κ) (κ.wrap (a+b)))
   |.sub=>k (.d (.int κ) (κ.wrap (a-b)))
   |.mul=>k (.d (.int κ) (κ.wrap (a*b)))
   |.quo=>if b=0 then none else k (.d (.int κ) (κ.wrap (a.tdiv b)))
   |.rem=>if b=0 then none else k (.d (.int κ) (a.tmod b))
   |.and=>k (.d (.int κ) (iu κ a b))
   |.or=>k (.d (.int κ) (RX κ a b))
   |.xor=>k (.d (.int κ) (dj κ a b))
   |.andNot=>k (.d (.int κ) (O2 κ a b))
   |op=>match IY op a b with
    |some r=>k (.d .bool r)
    |none=>none
   else none
 |.d .bool a,.d .bool b=>
  match op with
  |.eql=>if al E.ty xt=some .bool then k (.d .bool (a==b)) else none
  |.neq=>if al E.ty xt=some .bool then k (.d .bool (!(a==b))) else none
  |_=>none
 |x,y=>tX E op xt x y k
def PO(op:UnOp)(x:AV)(k:AV->Option R):Option R:=
 match op,x with
 |.not,.d .bool b=>k (.d .bool (!b))
 |.neg,.d (.int κ) n=>k (.d (.int κ) (κ.wrap (0-n)))
 |.xor,.d (.int κ) n=>k (.d (.int κ) (dj κ (if κ.signed then -1 else κ.max) n))
 |_,_=>none
def jw(E:Env)(t:TypeId):Option Ty:=match al E.ty t with|some (.list e)=>some e|_=>none
def KZ(E:Env)(ob:cW)(t:TypeId)(x:AV)(i:Int)(k:AV->Option R):Option R:=
 match x with
 |.ap key n=>match al ob key,al E.ar t with
  |some (.row τ l),some (m,e)=>bif Nat.beq m n&&decide (e=τ) then(aD l i).bind fun _=>k (.rptr key i.toNat 0) else none
  |_,_=>none
 |.d (.list e) l=>bif jw E t==some e then(aD l i).bind fun v=>k (.rop e v) else none
 |.full e l=>bif jw E t==some e then(aD l i).bind fun v=>k (.rop e v) else none
 |.ow key=>match al ob key with
  |some (.row e l)=>bif jw E t==some e then(aD l i).bind fun _=>k (.rptr key i.toNat 0) else none
  |_=>none
 |.own key off len=>match al ob key with
  |some (.row e l)=>bif jw E t==some e then(aD (cN l off len) i).bind fun _=>k (.rptr key (off+i.toNat) 0) else none
  |_=>none
 |_=>none
def sy(E:Env)(t:TypeId)(f:Nat)(k:Nat->TypeId->Option R):Option R:=
 match al E.fs t with
 |some (_,l)=>match l[f]? with
  |some (o,ft)=>k o ft
  |none=>none
 |none=>none
def AC(E:Env)(t:TypeId)(x:AV)(f:Nat)(k:AV->Option R):Option R:=
 sy E t f fun o ft=>match x with
  |.ptr key off=>k (.ptr key (off+o))
  |.rptr key j off=>k (.rptr key j (off+o))
  |.rop τ v=>match al E.ty ft with
   |some σ=>match zc τ v o σ with
    |some y=>k (.rop σ y)
    |none=>none
   |none=>none
  |_=>none
def Env.sizeOf(E:Env)(t:TypeId):Option Nat:=
 match al E.fs t with
 |some (n,_)=>some n
 |none=>match al E.ty t with
  |some τ=>some τ.size
  |none=>match al E.ot t with
   |some _=>some 1
   |none=>none
def Env.one(E:Env)(t:TypeId):Bool:=
 match al E.ty t with
 |some (.pair _ _)=>false
 |some _=>true
 |none=>(al E.ot t).isSome
def AT(E:Env)(ob:cW)(t:TypeId)(x:AV)(k:AV->Option R):Option R:=
 match x with
 |.ptr key off=>match al ob key with
  |some (.box cs)=>match al E.fs t with
   |some (n,_)=>bif Nat.ble (off+n) cs.length&&(cN cs off n).all xk then k (.agg (cN cs off n)) else none
   |none=>match cs[off]? with
    |some c=>bif E.one t then k c else none
    |none=>none
  |_=>none
 |.ap key n=>match al ob key,al E.ar t with
  |some (.row τ l),some (m,e)=>bif Nat.beq m n&&decide (e=τ) then k (.arr n τ l) else none
  |_,_=>none
 |.rop τ v=>bif decide (al E.ty t=some τ) then k (.d τ v) else none
 |.rptr key j off=>match al ob key with
  |some (.row τ l)=>match al E.ty t with
   |some σ=>(l[j]?).bind fun y=>match zc τ y off σ with
    |some z=>k (.d σ z)
    |none=>none
   |none=>none
  |_=>none
 |_=>none
def sub:Code->Ln->Code
 |c,[]=>c
 |.seq a _,0::p=>sub a p
 |.seq _ b,_::p=>sub b p
 |.cond _ a _,0::p=>sub a p
 |.cond _ _ b,_::p=>sub b p
 |.block _ c,_::p=>sub c p
 |.loop c,_::p=>sub c p
 |.scope c,_::p=>sub c p
 |c,_=>c
def rv(ob:cW)(e:Ty)(acc:List e.den):List (Nat×AV)->(List e.den->Option R)->Option R
 |[],k=>k acc
 |(i,v)::r,k=>bif Nat.blt i acc.length then Kg ob false e v fun x=>rv ob e (acc.set i x) r k else none
def om(E:Env):List (Nat×Nat)->Nat->List (Nat×AV)->(List AV->Option R)->Option R
 |[],_,[],k=>k []
 |[],_,_::_,_=>none
 |(_,ft)::fs,i,ps,k=>match ps with
  |(j,v)::r=>bif Nat.beq i j
   then bif E.sizeOf ft==some (cellsOf v).length&&(cellsOf v).all xk then om E fs (i+1) r fun cs=>k (cellsOf v++cs) else none
   else(E.zeroOf ft).bind fun z=>om E fs (i+1) ((j,v)::r) fun cs=>k (z++cs)
  |[]=>(E.zeroOf ft).bind fun z=>om E fs (i+1) [] fun cs=>k (z++cs)
def qK:Ln->Bool
 |[]=>true
 |x::r=>!r.any (Nat.beq x)&&qK r
def CZ(E:Env)(ob:cW)(t:TypeId)(ps:List (Nat×AV))(k:AV->Option R):Option R:=
 match al E.ar t with
 |some (n,e)=>rv ob e (List.replicate n e.zero) ps fun l=>k (.arr n e l)
 |none=>match al E.fs t with
  |some (_,fl)=>om E fl 0 ps fun l=>k (.agg l)
  |none=>none
def G5(ob:cW)(v:AV)(k:Int->Option R):Option R:=
 match v with
 |.nil=>k 0
 |.d (.list _) l=>k (l.length:Int)
 |.full _ l=>k (l.length:Int)
 |.new _ l=>k (l.length:Int)
 |.ow key=>match al ob key with
  |some (.row _ l)=>k (l.length:Int)
  |_=>none
 |.own _ _ len=>k (len:Int)
 |_=>none
def qn(E:Env)(ob:cW)(t:TypeId)(x:AV)(lo hi mx:Option AV)(k:AV->Option R):Option R:=
 match jw E t with
 |none=>none
 |some et=>G5 ob x fun n=>boundK lo 0 fun L=>boundK hi n fun H=>
  match x,mx with
  |.nil,none=>(kb ([]:List Unit) L H).bind fun _=>k .nil
  |.d (.list e) l,none=>bif decide (e=et) then(kb l L H).bind fun l=>k (.d (.list e) l) else none
  |.d (.list e) l,some m=>bif decide (e=et)&&hi.isSome then ux m fun _ m=>(kb l L H).bind fun l=>if m=H then k (.full e l) else none else none
  |.full e l,none=>bif decide (e=et) then(kb l L H).bind fun l=>k (.d (.list e) l) else none
  |.ow key,none=>match al ob key with
   |some (.row τ _)=>bif decide (τ=et) then(HW (decide (0<=L)&&decide (L<=H)&&decide (H<=n))).bind fun _=>k (.own key L.toNat (H-L).toNat) else none
   |_=>none
  |.own key off _,none=>match al ob key with
   |some (.row τ _)=>bif decide (τ=et) then(HW (decide (0<=L)&&decide (L<=H)&&decide (H<=n))).bind fun _=>k (.own key (off+L.toNat) (H-L).toNat) else none
   |_=>none
  |.ow key,some m=>match al ob key with
   |some (.row τ _)=>bif decide (τ=et)&&hi.isSome then ux m fun _ m=>(HW (decide (0<=L)&&decide (L<=H)&&decide (H<=n))).bind fun _=>if m=H then k (.own key L.toNat (H-L).toNat) else none else none
   |_=>none
  |_,_=>none
where
 boundK (v:Option AV) (dflt:Int) (k:Int->Option R):Option R:=
  match v with
  |none=>k dflt
  |some v=>ux v fun _ n=>k n
def LD(e:Ty)(x:AV)(ys:List e.den)(k:AV->Option R):Option R:=
 match x with
 |.nil=>(app [] ys).bind fun l=>k (.new e l)
 |.new σ l=>if h:σ=e then(app (h▸l) ys).bind fun l=>k (.new e l) else none
 |.full σ l=>match ys with
  |[]=>none
  |y::ys=>if h:σ=e then(app (h▸l) (y::ys)).bind fun l=>k (.new e l) else none
 |_=>none
def zx:Value->AV
 |.int k n=>.d (.int k) n
 |.bool b=>.d .bool b
 |.slice none 0 0=>.nil
 |_=>.any
def bk(sl:List AV):Operand->AV
 |.tmp t=>sl.getD t .any
 |.const v=>zx v
 |.func f=>.fn f []
 |.global _=>.any
def AS:AV->Bool
 |.ow _|.own _ _ _|.ptr _ _|.ap _ _|.rptr _ _ _=>true
 |_=>false
def nk:AV->Bool
 |.agg cs=>cs.any AS
 |.fn _ cs=>cs.any AS
 |.tup _=>true
 |v=>AS v
def wz(E:Env)(ob:cW)(b:Builtin)(ts:Array TypeId)(args:List AV)(k:AV->Option R):Option R:=
 match b,args with
 |.len,[x]=>match(ts[0]?).bind (jw E) with
  |some _=>G5 ob x fun n=>k (.d (.int .i64) n)
  |none=>none
 |.append,[x,y]=>match ts.toList with
  |[t,t']=>bif Nat.beq t t' then match jw E t with
   |some e=>pr ob e y fun ys=>LD e x ys k
   |none=>none else none
  |_=>none
 |.min,[x,y]=>ux x fun κ a=>ux y fun _ b=>k (.d (.int κ) (if b<a then b else a))
 |.max,[x,y]=>ux x fun κ a=>ux y fun _ b=>k (.d (.int κ) (if a<b then b else a))
 |_,_=>none
def tJ(E:Env)(C:bC)(ob:cW)(f:AV)(ts:List TypeId)(args:List AV)(k:AV->Option R):Option R:=
 match f with
 |.fn g caps=>match al E.cl g with
  |some e=>match args,caps with
   |[x],[]=>pr ob e x fun l=>(app [] l).bind fun l=>k (.new e l)
   |_,_=>none
  |none=>match al E.gr g with
  |some e=>match args,caps with
   |[.nil,x],[]=>ux x fun κ n=>match κ with
    |.i64=>bif decide (0<=n)&&decide (n<=(mR:Int)) then k (.new e []) else none
    |_=>none
   |_,_=>none
  |none=>match al E.sg g with
  |some (ms,s)=>bif (s.any Sh.hasList&&(args.any nk||caps.any AS)) || !ms.all Mode.isRo then none else
    xu E ob ts args fun xs=>(C g (xs++caps.map (JV ob)) (s++df ms)).bind fun r=>k (lQ s (eP s (df ms) r).1)
  |none=>none
 |_=>none
def fresh(E:Env)(t:TypeId)(v:AV):AV:=
 match v,jw E t with
 |.nil,some e=>.new e []
 |v,_=>v
def GG:(τ:Ty)->List AV->List AV
 |.pair a b,cs=>GG a (cs.take a.size)++GG b (cs.drop a.size)
 |.list e,[.nil]=>[.new e []]
 |_,cs=>cs
def Env.freshC(E:Env)(t:TypeId)(cs:List AV):List AV:=
 match al E.ty t with
 |some τ=>bif cs.length==τ.size then GG τ cs else cs
 |none=>cs
def Lx(E:Env)(t:TypeId)(x:AV)(k:AV->Option R):Option R:=
 match al E.ar t,x with
 |some (m,e'),.arr n e l=>bif (Nat.beq m n&&decide (e'=e))&&Nat.ble n 16777216 then k (.narr n e l) else none
 |some _,_=>none
 |none,x=>bif !(cellsOf x).isEmpty&&(cellsOf x).all xk then k (.nbox (E.freshC t (cellsOf x))) else none
def Aw(E:Env)(t:TypeId)(x:AV)(i:Int)(k:AV->Option R):Option R:=
 match al E.ar t,x with
 |some (m,e'),.arr n e l=>bif Nat.beq m n&&decide (e'=e) then(aD l i).bind fun v=>k (.d e v) else none
 |_,_=>none
def ec(E:Env)(C:bC)(ob:cW)(ρ:Operand->AV)(o:Oper)(k:AV->Option R):Option R:=
 match o.op with
 |.move x=>k (fresh E o.type (ρ x))
 |.assign x=>k (fresh E o.type (ρ x))
 |.pick c a b=>xr (ρ c) fun c=>bif c then k (ρ a) else k (ρ b)
 |.alloc t=>match al E.ar t with
  |some (n,e)=>bif Nat.ble n 16777216 then k (.narr n e (List.replicate n e.zero)) else none
  |none=>match E.zeroOf t with
   |some cs=>k (.nbox (E.freshC t cs))
   |none=>bif (al E.ot t).isSome then k (.nbox [.any]) else none
 |.box t x=>Lx E t (ρ x) k
 |.build t ps=>bif qK (ps.toList.filterMap fun p=>match p.2 with|.tmp t=>some t|_=>none) then CZ E ob t (ps.toList.map fun p=>(p.1,ρ p.2)) k else none
 |.buildSlice t n ps=>match jw E t with
  |some e=>bif Nat.ble (n*e.size) 16777216 then rv ob e (List.replicate n e.zero) (ps.toList.map fun p=>(p.1,ρ p.2)) fun l=>k (.new e l) else none
  |none=>none
 |.load t a=>AT E ob t (ρ a) k
 |.binOp op t x y _=>FU E ob op t (ρ x) (ρ y) k
 |.unOp op _ x=>PO op (ρ x) k
 |.convert s t x=>match al E.ty s,al E.ty t with
  |some _,some (.int κ)=>ux (ρ x) fun _ n=>k (.d (.int κ) (κ.wrap n))
  |_,_=>none
 |.makeFunc (.func f) first caps=>bif first.isEmpty&&(caps.toList.map ρ).all nG then k (.fn f (caps.toList.map ρ)) else none
 |.nilCheck x=>match ρ x with
  |.ptr key off=>k (.ptr key off)
  |.ap key n=>k (.ap key n)
  |.rop τ v=>k (.rop τ v)
  |.rptr key j off=>k (.rptr key j off)
  |_=>none
 |.makeSlice t n c=>match jw E t with
  |some e=>ux (ρ n) fun _ n=>ux (ρ c) fun _ c=>(Bm n e.zero).bind fun l=>if n=c then k (.new e l) else none
  |none=>none
 |.slice t x lo hi mx=>qn E ob t (ρ x) (lo.map ρ) (hi.map ρ) (mx.map ρ) k
 |.fieldAddr t x f=>AC E t (ρ x) f k
 |.field t x f=>(J8 (ρ x)).bind fun cs=>sy E t f fun off ft=>match al E.fs ft with
  |some (n,_)=>k (.agg (cN cs off n))
  |none=>bif E.one ft then match cs[off]? with
   |some c=>k c
   |none=>none else none
 |.indexAddr t x i=>ux (ρ i) fun _ i=>KZ E ob t (ρ x) i k
 |.index t x i=>ux (ρ i) fun _ i=>Aw E t (ρ x) i k
 |.extract x i=>match ρ x with
  |.tup vs=>match vs[i]? with
   |some v=>k v
   |none=>none
  |_=>none
 |.call c=>match c.callee with
  |.builtin b=>wz E ob b c.argTypes (c.args.toList.map ρ) k
  |.value f=>tJ E C ob (ρ f) c.argTypes.toList (c.args.toList.map ρ) k
  |.invoke _ _=>none
 |_=>none
structure St where
 f:Nat
 sl:List AV
 ob:cW
def mZ{α:Type}:List α->Nat->α->List α
 |[],_,_=>[]
 |_::r,0,y=>y::r
 |x::r,n+1,y=>x::mZ r n y
def fk(ob:cW)(key:Nat):Nat:=match al ob key with
 |some _=>key+16
 |none=>key
def fi(key:Nat)(ob:cW):AV->AV×cW
 |.new τ l=>match al ob (fk ob key) with
  |some _=>(.any,ob)
  |none=>(.ow (fk ob key),(fk ob key,.row τ l)::ob)
 |.narr n τ l=>match al ob (fk ob key) with
  |some _=>(.any,ob)
  |none=>(.ap (fk ob key) n,(fk ob key,.row τ l)::ob)
 |.nbox _=>(.any,ob)
 |v=>(v,ob)
def dB(key:Nat)(ob:cW):List AV->List AV×cW
 |[]=>([],ob)
 |v::r=>let (v',ob):=fi key ob v;let (r',ob):=dB (key+1) ob r;(v'::r',ob)
def nB(key:Nat)(ob:cW):AV->AV×cW
 |.nbox cs=>match al ob key with
  |some _=>(.any,ob)
  |none=>let (cs',ob):=dB (key+1) ob cs;(.ptr key 0,(key,.box cs')::ob)
 |v=>fi key ob v
def kZ(key:Nat)(ob:cW):List AV->List AV×cW
 |[]=>([],ob)
 |.agg cs::r=>let (cs',ob):=dB key ob cs;let (r',ob):=kZ (key+32) ob r;(.agg cs'::r',ob)
 |v::r=>let (v',ob):=fi key ob v;let (r',ob):=kZ (key+32) ob r;(v'::r',ob)
def keyed(key:Nat)(ob:cW):AV->AV×cW
 |.tup vs=>let (vs',ob):=kZ key ob vs;(.tup vs',ob)
 |.agg cs=>let (cs',ob):=dB key ob cs;(.agg cs',ob)
 |v=>nB key ob v
def keyOf(dst:Nat):Nat:=(dst+16)*256
def Mx(i:Nat):Nat:=10000000+i*256
def St.put(st:St)(dst:Option Tmp)(v:AV):St:=
 match dst with
 |some t=>let (v,ob):=keyed (keyOf t) st.ob v;{ st with sl:=mZ st.sl t v,ob:=ob }
 |none=>st
def tx(g:AV->AV):AV->AV
 |.agg cs=>.agg (cs.map g)
 |.fn f cs=>.fn f (cs.map g)
 |v=>g v
def lR(g:AV->AV):AV->AV
 |.tup vs=>.tup (vs.map (tx g))
 |v=>tx g v
def yT(key:Nat):AV->AV
 |.ow k=>bif Nat.beq k key then .any else .ow k
 |.own k a b=>bif Nat.beq k key then .any else .own k a b
 |.rptr k j off=>bif Nat.beq k key then .any else .rptr k j off
 |.ap k n=>bif Nat.beq k key then .any else .ap k n
 |.ptr k off=>bif Nat.beq k key then .any else .ptr k off
 |v=>v
def pv(key:Nat)(v:AV):AV:=lR (yT key) v
def nu(g:AV->AV)(ob:cW):cW:=ob.map fun x=>(x.1,match x.2 with|.box cs=>.box (cs.map g)|o=>o)
def nA(key:Nat)(st:St):St:=
 { st with
  sl:=st.sl.map (pv key)
  ob:=nu (pv key) st.ob }
def gF:AV->Ln
 |.ow k|.own k _ _|.ptr k _|.ap k _|.rptr k _ _=>[k]
 |_=>[]
def refsOf:AV->Ln
 |.agg cs=>cs.flatMap gF
 |.tup vs=>vs.flatMap fun|.agg cs=>cs.flatMap gF|v=>gF v
 |.fn _ caps=>caps.flatMap gF
 |v=>gF v
def E2(ob:cW):Ln->Ln
 |[]=>[]
 |k::r=>(match al ob k with|some (.box cs)=>cs.flatMap refsOf|_=>[])++E2 ob r
def vU(key:Nat)(o:Ob):AV->AV
 |.ow k=>bif Nat.beq k key then(match o with|.row τ l=>.d (.list τ) l|_=>.any) else .ow k
 |.own k off len=>bif Nat.beq k key then(match o with|.row τ l=>.d (.list τ) (cN l off len)|_=>.any) else .own k off len
 |.rptr k j off=>bif Nat.beq k key then .any else .rptr k j off
 |.ap k n=>bif Nat.beq k key then .any else .ap k n
 |.ptr k off=>bif Nat.beq k key then .any else .ptr k off
 |v=>v
def Hh(key:Nat)(o:Ob)(v:AV):AV:=lR (vU key o) v
def freeze(st:St)(key:Nat):St:=
 match al st.ob key with
 |some (.row τ l)=>{ st with
   sl:=st.sl.map (Hh key (.row τ l))
   ob:=nu (Hh key (.row τ l)) (fW st.ob key) }
 |_=>st
def kG(st:St):Ln->St
 |[]=>st
 |k::r=>kG (freeze st k) r
def MN(st:St)(v:AV):Ln:=
 refsOf v++E2 st.ob (refsOf v)
def vW(st:St):Ln->St
 |[]=>st
 |t::r=>vW (kG st (MN st (st.sl.getD t .any))) r
def sV(ob:cW):(s:Sh)->List AV->(s.den->List AV->cW->Option R)->Option R
 |.d τ,cs,k=>da ob true τ cs fun v r=>k v r (frz ob τ cs)
 |.own τ,c::r,k=>match c with
  |.nil=>k [] r ob
  |.ow key=>match al ob key with
   |some (.row σ l)=>if h:σ=τ then k (h▸l) r (fW ob key) else none
   |_=>none
  |.own key off len=>match al ob key with
   |some (.row σ l)=>if h:σ=τ then k (h▸cN l off len) r (fW ob key) else none
   |_=>none
  |_=>none
 |.own _,[],_=>none
 |.agg a b,cs,k=>sV ob a cs fun x cs ob=>sV ob b cs fun y cs ob=>k (x,y) cs ob
where
 frz (ob:cW):Ty->List AV->cW
  |.pair a b,cs=>frz (frz ob a cs) b (cs.drop a.size)
  |.list _,.ow key::_=>fW ob key
  |.list _,.own key _ _::_=>fW ob key
  |_,_=>ob
def q9(ob:cW)(sl:List AV):List Mode->Nat->(ss:List Sh)->(eU ss->Option R)->Option R
 |[],_,[],k=>k ()
 |.io _::ms,i,[s],k=>io1 ob s (sl.getD i .any) fun x ob=>q9 ob sl ms (i+1) [] fun _=>k x
 |.io _::ms,i,s::t::r,k=>io1 ob s (sl.getD i .any) fun x ob=>q9 ob sl ms (i+1) (t::r) fun y=>k (x,y)
 |.io _::_,_,[],_=>none
 |_::ms,i,ss,k=>q9 ob sl ms (i+1) ss k
 |[],_,_::_,_=>none
where
 io1 (ob:cW) (s:Sh) (v:AV) (k:s.den->cW->Option R):Option R:=
  match s,v,k with
  |.own τ,.ow key,k=>match al ob key with
   |some (.row σ l)=>if h:σ=τ then k (h▸l) (fW ob key) else none
   |_=>none
  |.own _,_,_=>none
  |s,.ptr key 0,k=>match al ob key with
   |some (.box cs)=>sV (fW ob key) s cs fun x r ob=>match r with
    |[]=>k x ob
    |_=>none
   |_=>none
  |_,_,_=>none
def Au:AV->AV
 |.new τ l=>.new τ l
 |v=>.nbox (cellsOf v)
def jS(ob:cW):List Mode->List AV->(List (Option AV)->cW->Option R)->Option R
 |.ro::ms,_::vs,k=>jS ob ms vs fun xs ob=>k (none::xs) ob
 |.mv (.own τ)::ms,v::vs,k=>sV ob (.own τ) [v] fun x _ ob'=>jS ob' ms vs fun xs ob=>k (some (.new τ x)::xs) ob
 |.io s::ms,v::vs,k=>q9.io1 ob s v fun x ob'=>jS ob' ms vs fun xs ob=>k (some (Au (nY s x))::xs) ob
 |[],[],k=>k [] ob
 |_,_,_=>none
def s5(E:Env)(ob:cW):List (Option AV)->List TypeId->List AV->(List AV->Option R)->Option R
 |some x::ms,_::ts,_::vs,k=>s5 E ob ms ts vs fun xs=>k (x::xs)
 |none::ms,t::ts,v::vs,k=>bif nk v then none else Jl E ob t v fun x=>s5 E ob ms ts vs fun xs=>k (x::xs)
 |[],[],[],k=>k []
 |_,_,_,_=>none
def OY(key:Nat)(st:St):St:={ st with sl:=st.sl.map (pv key),ob:=nu (pv key) (fW st.ob key) }
def iz(st:St):Ln->St
 |[]=>st
 |k::r=>iz (OY k st) r
def Mode.isV:Mode->Bool
 |.ro=>true
 |.mv (.own _)=>true
 |.io _=>true
 |_=>false
def vN:List Mode->List AV->Option Nat
 |.io _::_,.ptr key _::_=>some key
 |.io _::_,.ow key::_=>some key
 |.io _::_,_=>none
 |_::ms,_::vs=>vN ms vs
 |_,_=>none
def EZ:List Mode->List AV->Ln
 |.ro::ms,v::vs=>refsOf v++EZ ms vs
 |_::ms,_::vs=>EZ ms vs
 |_,_=>[]
def Nf(st:St)(key:Nat)(cs:List AV):Option St:=
 match al st.ob key with
 |some (.box c0)=>bif Nat.beq c0.length cs.length then
   let r:=dB (key+1) (fx st.ob key (.box (c0.map fun _=>.any))) cs
   some { st with ob:=fx r.2 key (.box r.1) }
  else none
 |_=>none
def J5(st:St)(key:Nat)(τ:Ty)(l':List τ.den):Option St:=
 match al st.ob key with
 |some (.row σ l)=>if h:τ=σ then(bif Nat.blt 0 (List.length l')&&Nat.beq l.length (List.length l') then some { st with ob:=fx st.ob key (.row σ (h▸l')) } else none) else none
 |_=>none
def sH(st:St)(ob:cW)(dst:Option Tmp)(ms:List Mode)(args:List AV)(av:AV)(ios:List AV):Option St:=
 let D:=(st.ob.map (·.1)).filter fun k=>(al ob k).isNone
 match ios with
 |[]=>some ((iz st D).put dst av)
 |[v]=>match vN ms args with
  |some key=>match v with
   |.new τ l=>(J5 (iz st (D.filter fun k=>!Nat.beq k key)) key τ l).map fun st=>st.put dst av
   |v=>(Nf (iz st (D.filter fun k=>!Nat.beq k key)) key (cellsOf v)).map fun st=>st.put dst av
  |none=>none
 |_=>none
def Nd(st:St)(key:Nat)(τ:Ty)(l':List τ.den)(k:St->Option R):Option R:=
 match al st.ob key with
 |some (.row σ l)=>if h:τ=σ then(bif Nat.blt 0 (List.length l')&&Nat.beq l.length (List.length l') then k { st with ob:=fx st.ob key (.row σ (h▸l')) } else none) else none
 |_=>none
def Jr(st:St)(ob:cW)(dst:Option Tmp)(ms:List Mode)(args:List AV)(av:AV)(ios:List AV)(k:St->Option R):Option R:=
 match ios with
 |[.new τ l]=>match vN ms args with
  |some key=>Nd (iz st (((st.ob.map (·.1)).filter fun k=>(al ob k).isNone).filter fun k=>!Nat.beq k key)) key τ l fun st=>k (st.put dst av)
  |none=>none
 |ios=>(sH st ob dst ms args av ios).bind k
def xp(E:Env)(C:bC)(o:Oper)(st:St)(g:FuncId)(ms:List Mode)(s:List Sh)(ts:List TypeId)(args:List AV)(k:St->Option R):Option R:=
 bif !ms.all Mode.isV then none else
 jS st.ob ms args fun xs ob=>s5 E st.ob xs ts args fun ys=>
  (C g ys (s++df ms)).bind fun r=>Jr st ob o.dst ms args (lQ s (eP s (df ms) r).1) (gL (df ms) (eP s (df ms) r).2) k
def qc:Option FuncId->List AV->Bool
 |none,[]=>true
 |some g,[.fn g' []]=>Nat.beq g g'
 |_,_=>false
def Lh(x:Xt)(dst:Option Tmp)(st:St)(args:List AV)(k:St->Option R):Option R:=
 match x,args with
 |.inplace τ f c,.ow key::r=>bif qc c r then match al st.ob key with
   |some (.row σ l)=>if h:σ=τ then(lim f (h▸l)).bind fun l=>k ({ st with ob:=fx st.ob key (.row τ l) }.put dst (.tup [])) else none
   |_=>none
  else none
 |.take τ f,[.ow key]=>match al st.ob key with
   |some (.row σ l)=>if h:σ=τ then(lim f (h▸l)).bind fun l=>k ((nA key { st with ob:=fW st.ob key }).put dst (.new τ l)) else none
   |_=>none
 |.calc f,args=>match f st.ob args with
   |some (b,.d τ v)=>bif b then k (st.put dst (.d τ v)) else none
   |some (b,.arr n τ l)=>bif b then k (st.put dst (.arr n τ l)) else none
   |_=>none
 |.cut τ,[.ow key,.d (.int .i64) i,.d (.int .i64) j]=>match al st.ob key with
   |some (.row σ l)=>if h:σ=τ then(tG (h▸l) i j).bind fun l=>k ((nA key { st with ob:=fW st.ob key }).put dst (.new τ l)) else none
   |_=>none
 |_,_=>none
def xB(E:Env)(dst:Option Tmp)(st:St)(t:TypeId)(a x:AV)(k:St->Option R):Option R:=
 match a with
 |.ptr key off=>match al st.ob key with
  |some (.box cs)=>
   let r:=dB (key+64+off) st.ob (E.freshC t (cellsOf x))
   bif decide (off+r.1.length<=cs.length)&&((E.sizeOf t).any fun n=>n==r.1.length)&&(cellsOf x).all Ew
   then k ({ st with ob:=fx r.2 key (.box (cs.take off++r.1++cs.drop (off+r.1.length))) }.put dst .non) else none
  |_=>none
 |.ap key n=>match al st.ob key,x,al E.ar t with
  |some (.row τ l),.arr n' σ m,some (n'',e)=>if h:σ=τ then bif Nat.beq n n'&&Nat.beq n n''&&decide (e=τ) then k ({ st with ob:=fx st.ob key (.row τ (h▸m)) }.put dst .non) else none else none
  |_,_,_=>none
 |_=>none
def EN(E:Env)(dst:Option Tmp)(st:St)(t:TypeId)(key off:Nat)(g:FuncId)(caps:List AV)(k:St->Option R):Option R:=
 match al st.ob key with
 |some (.box cs)=>bif Nat.blt off cs.length&&(al E.ot t).isSome then k ({ st with ob:=fx st.ob key (.box (cs.take off++[AV.fn g caps]++cs.drop (off+1))) }.put dst .non) else none
 |_=>none
def zQ(E:Env)(dst:Option Tmp)(st:St)(t:TypeId)(key j off:Nat)(x:Operand)(k:St->Option R):Option R:=
 let st:=kG st ((refsOf (bk st.sl x)).filter fun k=>!Nat.beq k key)
 match al st.ob key,al E.ty t with
 |some (.row τ l),some σ=>Kg st.ob false σ (bk st.sl x) fun v=>(l[j]?).bind fun y=>match setAt τ y off σ v with
  |some z=>k ({ st with ob:=fx st.ob key (.row τ (l.set j z)) }.put dst .non)
  |none=>none
 |_,_=>none
def uL(E:Env)(dst:Option Tmp)(st:St)(ts:Array TypeId)(key:Nat)(cut:Option Nat)(y:AV)(k:St->Option R):Option R:=
 match ts.toList with
 |[t,t']=>bif Nat.beq t t' then match al st.ob key,jw E t with
  |some (.row σ l),some e=>if h:σ=e then pr st.ob e y fun ys=>
    (app (match cut with|none=>h▸l|some n=>cN (h▸l) 0 n) ys).bind fun l=>k ((nA key { st with ob:=fW st.ob key }).put dst (.new e l)) else none
  |_,_=>none
  else none
 |_=>none
def aZ(n:Nat):List AV:=List.replicate n .any
def Ty.one:Ty->Bool
 |.int _=>true
 |.bool=>true
 |_=>false
def FM(E:Env)(dst:Option Tmp)(st:St)(ts:Array TypeId)(x:AV)(k:St->Option R):Option R:=
 match x with
 |.ow key=>match(ts[0]?).bind (jw E),al st.ob key with
  |some e,some (.row τ l)=>bif decide (e=τ)&&τ.one then k ({ st with ob:=fx st.ob key (.row τ (List.replicate l.length τ.zero)) }.put dst (.tup [])) else none
  |_,_=>none
 |_=>none
def uG{α:Type}(l:List α)(off len:Nat)(ys:List α):List α:=l.take off++ys.take len++l.drop (off+(ys.take len).length)
def JZ(E:Env)(dst:Option Tmp)(st:St)(ts:Array TypeId)(x y:AV)(k:St->Option R):Option R:=
 match x with
 |.own key off len=>match(ts[0]?).bind (jw E),al st.ob key with
  |some e,some (.row σ l)=>bif e.one then(if h:σ=e then pr st.ob e y fun ys=>
    k ({ st with ob:=fx st.ob key (.row e (uG (h▸l) off len ys)) }.put dst (.d (.int .i64) ((ys.take len).length:Int))) else none) else none
  |_,_=>none
 |_=>none
def l9(E:Env)(C:bC)(o:Oper)(st:St)(k:St->Option R):Option R:=
 match o.op with
 |.store t a x=>match bk st.sl a with
  |.rptr key j off=>zQ E o.dst st t key j off x k
  |.ptr key off=>match bk st.sl x with
   |.fn g caps=>EN E o.dst st t key off g caps k
   |y=>xB E o.dst st t (.ptr key off) y k
  |a=>xB E o.dst st t a (bk st.sl x) k
 |.buildSlice _ _ ps=>
  let st:=kG st ((ps.toList.map fun p=>bk st.sl p.2).flatMap refsOf)
  ec E C st.ob (bk st.sl) o fun v=>k (st.put o.dst v)
 |.call c=>match c.callee with
  |.builtin .append=>match c.args.toList with
   |[x,y]=>match bk st.sl x with
    |.ow key=>uL E o.dst st c.argTypes key none (bk st.sl y) k
    |.own key 0 len=>uL E o.dst st c.argTypes key (some len) (bk st.sl y) k
    |_=>ec E C st.ob (bk st.sl) o fun v=>k (st.put o.dst v)
   |_=>none
  |.builtin .clear=>match c.args.toList with
   |[x]=>FM E o.dst st c.argTypes (bk st.sl x) k
   |_=>none
  |.builtin .copy=>match c.args.toList with
   |[x,y]=>JZ E o.dst st c.argTypes (bk st.sl x) (bk st.sl y) k
   |_=>none
  |.value f=>match bk st.sl f with
   |.fn g caps=>match al E.sg g with
    |some (ms,s)=>bif ms.all Mode.isRo
     then
      let st:=bif s.any Sh.hasList then kG st ((c.args.toList.map (bk st.sl)).flatMap refsOf) else st
      ec E C st.ob (bk st.sl) o fun v=>k (st.put o.dst v)
     else match caps with
      |[]=>
       let st:=kG st (EZ ms (c.args.toList.map (bk st.sl)))
       xp E C o st g ms s c.argTypes.toList (c.args.toList.map (bk st.sl)) k
      |_=>none
    |none=>match al E.so g,caps with
     |some x,[]=>Lh x o.dst st (c.args.toList.map (bk st.sl)) k
     |_,_=>ec E C st.ob (bk st.sl) o fun v=>k (st.put o.dst v)
   |_=>none
  |_=>ec E C st.ob (bk st.sl) o fun v=>k (st.put o.dst v)
 |_=>ec E C st.ob (bk st.sl) o fun v=>k (st.put o.dst v)
def rU(ops:Array Oper)(sl:List AV)(o:Oper)(k:Bool->List AV->Option R):Option R:=
 match o.guard with
 |none=>k true sl
 |some (j,w)=>match(ops[j]?).bind (·.dst) with
  |some t=>match sl.getD t .any with
   |.d .bool b=>bif b then k w (mZ sl t (.d .bool true)) else k (!w) (mZ sl t (.d .bool false))
   |.non=>k false sl
   |_=>none
  |none=>none
def l8(E:Env)(C:bC)(ops:Array Oper)(o:Oper)(st:St)(k:St->Option R):Option R:=
 rU ops st.sl o fun b sl=>bif b then l9 E C o { st with sl:=sl } k else k ({ st with sl:=sl }.put o.dst .non)
def de(o:Oper):Ln:=o.op.operands.toList.filterMap fun|.tmp t=>some t|_=>none
def lW:AV->Bool
 |.new _ _|.narr _ _ _|.nbox _=>true
 |_=>false
def lV:AV->Bool
 |.agg cs=>cs.any lW
 |v=>lW v
def cR:AV->Bool
 |.tup vs=>vs.any lV
 |v=>lV v
def ie(o:Oper)(t:Nat):Bool:=
 match o.op with
 |.extract (.tmp _) _=>false
 |_=>(de o).any (Nat.beq t)
def ng(o:Oper)(t i:Nat):Bool:=
 match o.op with
 |.extract (.tmp x) j=>Nat.beq x t&&Nat.beq j i
 |_=>false
def ry(v:AV):AV:=bif cR v then .any else v
def Bd(l:List Oper)(t:Nat):List AV->Nat->List AV
 |[],_=>[]
 |v::r,i=>(bif l.any fun o=>ng o t i then ry v else v)::Bd l t r (i+1)
def vd(l:List Oper)(t:Nat)(v:AV):AV:=
 match v with
 |.tup vs=>bif l.any fun o=>ie o t then ry (.tup vs) else .tup (Bd l t vs 0)
 |v=>bif l.any fun o=>ie o t then ry v else v
def tZ(l:List Oper)(t:Nat):Bool:=
 match l.filter fun o=>(de o).any (Nat.beq t) with
 |[]=>true
 |[_]=>true
 |r=>r.all (fun o=>match o.op with|.extract (.tmp _) _=>true|_=>false) &&
   qK (r.map fun o=>match o.op with|.extract _ i=>i|_=>0)
def tO(E:Env)(C:bC)(ops:Array Oper)(m:List Oper)(ob:cW)(o:Oper)(sl:List AV)(k:List AV->Option R):Option R:=
 rU ops sl o fun b sl=>bif b
  then ec E C ob (bk sl) o fun v=>match o.dst with
   |some t=>bif !cR v||tZ m t then k (mZ sl t v) else none
   |none=>none
  else k (match o.dst with|some t=>mZ sl t .non|none=>sl)
def settle(m:List Oper)(st:St):List Oper->St
 |[]=>st
 |o::r=>match o.dst with
  |some t=>settle m (bif cR (st.sl.getD t .any) then st.put (some t) (vd m t (st.sl.getD t .any)) else st) r
  |none=>settle m st r
def je(ops:List Oper):Ln:=
 ops.foldl (init:=[]) fun acc o=>
  acc++[o.after.foldl (fun s e=>bif Region.binds .any e then Nat.lor s (Nat.lor (2^e.on) (acc.getD e.on 0)) else s) 0]
def nz(o:Oper):Bool:=
 match o.guard,o.op with
 |none,.move (.tmp _)=>true
 |none,.extract (.tmp _) _=>true
 |none,.binOp _ _ _ _ _=>true
 |_,_=>false
def EI(ops:List Oper)(a o:Oper):Bool:=
 match a.guard,a.op,a.dst,o.guard,o.op,o.dst with
 |none,.makeSlice _ _ _,some _,none,.store _ (.tmp p) (.const v),none=>
  (match v with|.int _ _=>true|.bool _=>true|_=>false)&&ops.any fun q=>match q.guard,q.op,q.dst with
   |none,.fieldAddr _ _ _,some t=>Nat.beq t p
   |_,_,_=>false
 |_,_,_,_,_,_=>false
def swapAt(b:Ln)(n i j:Nat):Bool:=
 (List.range n).all fun q=>(Nat.ble q i||Nat.ble j q||Nat.testBit (b.getD j 0) q)&&(Nat.ble q j||(Nat.testBit (b.getD q 0) i&&Nat.testBit (b.getD q 0) j))
def Hq(ops:Array Oper)(m:Nat):Bool:=
 let b:=je ops.toList
 let z:=ops.toList.zipIdx
 qK (ops.toList.filterMap (·.dst))&&Region.noSelect ops &&
 (z.all fun(o,j)=>
  (o.after.all fun e=>!Region.binds .any e||Nat.blt e.on j) &&
  (z.all fun(a,i)=>match a.dst with
   |some t=>Nat.beq i j || !(o.looksAt ops).any (Nat.beq t)||Nat.testBit (b.getD (bif Nat.blt i j then j else i) 0) (bif Nat.blt i j then i else j)
   |none=>true) &&
  (Nat.blt j m||(z.all fun(a,i)=>Nat.ble j i||Nat.testBit (b.getD j 0) i||(Nat.blt i m&&nz a)||(Nat.beq j m&&Nat.blt i m&&EI (ops.toList.take j) a o&&swapAt b ops.size i j))) &&
  (!(Nat.blt j m&&nz o)||(z.all fun(a,i)=>Nat.beq i j||Nat.testBit (b.getD j 0) i||(a.after.any fun e=>Region.binds .any e&&Nat.beq e.on j)||o.apart ops a)))
def Ap(o:Oper):Bool:=
 nz o||match o.guard,o.op with
  |none,.nilCheck (.tmp _)=>true
  |none,.fieldAddr _ (.tmp _) _=>true
  |_,_=>false
def MV(ops:Array Oper)(listed:Array Bool)(i:Nat):Bool:=
 match ops[i]? with
 |some o=>Ap o&&(List.range ops.size).all fun j=>Nat.beq j i||listed.getD j true||match ops[j]? with
  |some a=>(a.after.any fun e=>Region.binds .any e&&Nat.beq e.on i)||o.apart ops a
  |none=>true
 |none=>false
open Classical in
noncomputable def ae{α:Type}(l:List (Option α)):Option α:=
 match l with
 |[]=>none
 |x::r=>if ∀y∈r,y=x then x else none
noncomputable def explore(E:Env)(C:bC)(ops:Array Oper)(K:St->Option R):Nat->Array Bool->St->Option R
 |0,listed,st=>match Region.ready .any ops listed with
  |[]=>K st
  |_::_=>none
 |n+1,listed,st=>match Region.ready .any ops listed with
  |[]=>K st
  |j::js=>match(j::js).find? (MV ops listed) with
   |some i=>match ops[i]? with
    |some o=>l8 E C ops o st (explore E C ops K n (listed.setIfInBounds i true))
    |none=>none
   |none=>ae ((j::js).map fun i=>match ops[i]? with
    |some o=>l8 E C ops o st (explore E C ops K n (listed.setIfInBounds i true))
    |none=>none)
inductive It where
 |code (c:Code)|ops (all:Array Oper) (l:List Oper)|aops (all:Array Oper) (l m:List Oper)
 |inLoop (c:Code)|loopAt (c:Code)|inBlock (id:Nat)
def k9(id:Nat):List It->Option (List It)
 |.inBlock i::r=>bif Nat.beq i id then some r else k9 id r
 |_::r=>k9 id r
 |[]=>none
def mO:Code->Nat
 |.region id _ _=>id
 |.seq a _=>mO a
 |.block _ c=>mO c
 |.loop c=>mO c
 |.scope c=>mO c
 |_=>100000
def OA(l:Ln):Ln->Ln
 |[]=>l
 |x::r=>OA (bif l.any (Nat.beq x) then l else l++[x]) r
def E0(ks:List (Nat×Nat)):AV->AV
 |.ow k=>match al ks k with|some j=>.ow j|none=>.any
 |.own k a b=>match al ks k with|some j=>.own j a b|none=>.any
 |.ptr k a=>match al ks k with|some j=>.ptr j a|none=>.any
 |.ap k n=>match al ks k with|some j=>.ap j n|none=>.any
 |.rptr k a b=>match al ks k with|some j=>.rptr j a b|none=>.any
 |.agg _=>.any
 |.tup _=>.any
 |.fn _ _=>.any
 |.nbox _=>.any
 |.new _ _=>.any
 |.narr _ _ _=>.any
 |v=>v
def yz(ks:List (Nat×Nat))(v:AV):AV:=lR (E0 ks) v
def uS(live:Ln):List AV->Nat->List AV
 |[],_=>[]
 |v::r,i=>(bif live.any (Nat.beq i) then v else .any)::uS live r (i+1)
def nm(ob:cW)(ks:List (Nat×Nat)):List (Nat×Nat)->cW
 |[]=>[]
 |(k,j)::r=>match al ob k with
  |some (.box cs)=>(j,.box (cs.map (yz ks)))::nm ob ks r
  |some o=>(j,o)::nm ob ks r
  |none=>nm ob ks r
def yJ:Ln->Nat->List (Nat×Nat)
 |[],_=>[]
 |k::r,n=>bif Nat.ble 10000000 k then(k,k)::yJ r n else(k,n)::yJ r (n+1)
def Bw(st:St)(t:Nat):St:=
 match st.sl.getD t .any with
 |.own key 0 len=>match al st.ob key with
  |some (.row τ l)=>bif τ.hasList then st else(nA key { st with ob:=fW st.ob key }).put (some t) (.new τ (cN l 0 len))
  |_=>st
 |_=>st
def Md(live:Ln)(st:St)(t:Nat):Bool:=
 match st.sl.getD t .any with
 |.own key 0 _=>(live.all fun i=>Nat.beq i t || !(refsOf (st.sl.getD i .any)).any (Nat.beq key))&&(st.ob.all fun x=>match x.2 with|.box cs=>!(cs.flatMap refsOf).any (Nat.beq key)|_=>true)
 |_=>false
def yo(live:Ln)(st:St):Ln->St
 |[]=>st
 |t::r=>yo live (bif Md live st t then Bw st t else st) r
def canon(E:Env)(key:Nat)(st:St):St:=
 match(al E.live st.f).bind (al · key) with
 |none=>st
 |some live=>canonK live (let st:=(match(al E.frz st.f).bind (al · key) with|some l=>vW st l|none=>st);yo live st live)
where
 canonK (live:Ln) (st:St):St:=
  let sl:=uS live st.sl 0
  let k0:=OA [] ((st.ob.map (·.1)).filter (Nat.ble 10000000)++sl.flatMap refsOf)
  let k1:=OA k0 (E2 st.ob k0)
  let ks:=yJ (OA k1 (E2 st.ob k1)) 0
  bif qK (ks.map (·.1))&&qK (ks.map (·.2)) then { f:=st.f,sl:=sl.map (yz ks),ob:=nm st.ob ks ks } else st
def uU(np:Nat)(o:Oper):Bool:=
 match o.dst with
 |some t=>Nat.ble np t
 |none=>true
def iW(np:Nat):Code->Bool
 |.region _ ops _=>ops.toList.all (uU np)
 |.seq a b=>iW np a&&iW np b
 |.cond _ a b=>iW np a&&iW np b
 |.block _ c=>iW np c
 |.loop c=>iW np c
 |_=>true
def wy(s:Sh)(v:AV):List AV:=
 match s with
 |.d (.pair _ _)|.agg _ _=>cellsOf v
 |_=>[v]
def FH(ob:cW):(s:List Sh)->List AV->(eU s->cW->Option R)->Option R
 |[],[],k=>k () ob
 |[s],[v],k=>sV ob s (wy s v) fun x r ob=>match r with|[]=>k x ob|_=>none
 |s::t::r,v::vs,k=>sV ob s (wy s v) fun x r' ob=>match r' with
  |[]=>FH ob (t::r) vs fun y ob=>k (x,y) ob
  |_=>none
 |_,_,_=>none
def qw(E:Env)(st:St):List ResultVar->(List AV->Option R)->Option R
 |[],k=>k []
 |.tmp t::r,k=>qw E st r fun vs=>k (st.sl.getD t .any::vs)
 |.cell a t::r,k=>AT E st.ob t (st.sl.getD a .any) fun v=>qw E st r fun vs=>k (v::vs)
def Ei:(s t:List Sh)->eU s->eU t->eU (s++t)
 |[],_,_,y=>y
 |[_],[],x,_=>x
 |[_],_::_,x,y=>(x,y)
 |_::b::r,t,x,y=>(x.1,Ei (b::r) t x.2 y)
def MY(E:Env)(s:List Sh)(st:St):Option (eU s):=
 match al E.fn st.f,al E.sg st.f with
 |some fn,some (ms,rs)=>
  if h:rs++df ms=s then
   qw E st fn.results.toList fun vs=>FH st.ob rs vs fun x ob=>q9 ob st.sl ms 0 (df ms) fun y=>some (h▸Ei rs (df ms) x y)
  else none
 |_,_=>none
def ke(ob:cW):List AV->Nat->List AV×cW
 |[],_=>([],ob)
 |v::r,i=>let (v',ob):=keyed (Mx i) ob v;let (r',ob):=ke ob r (i+1);(v'::r',ob)
def Mode.isIo:Mode->Bool
 |.io _=>true
 |_=>false
def IN(E:Env)(f:FuncId)(args:List AV):Option (Code×St):=
 match al E.fn f with
 |some fn=>match fn.body with
  |some c=>bif (match al E.sg f with|some (ms,_)=>!ms.any Mode.isIo||(Nat.ble ms.length args.length&&iW args.length c)|none=>true)
   then let (sl,ob):=ke [] args 0;some (c,{ f:=f,sl:=sl++List.replicate (fn.ntmps-sl.length) .non,ob:=ob })
   else none
  |none=>none
 |none=>none
noncomputable def ql(E:Env)(s:List Sh)(D:List It->St->Option (eU s))(C:bC)(t:List It)(st:St):Option (eU s):=
 match t with
 |[]=>MY E s st
 |.code .ret::_=>MY E s st
 |.code .skip::k=>D k st
 |.code (.seq a b)::k=>D (.code a :: .code b::k) st
 |.code (.cond c x y)::k=>xr (bk st.sl c) fun b=>bif b then D (.code x::k) st else D (.code y::k) st
 |.code (.block id b)::k=>D (.code b :: .inBlock id::k) st
 |.inBlock _::k=>D k st
 |.code (.loop b)::k=>D (.loopAt b::k) (canon E (mO b) st)
 |.inLoop b::k=>D (.loopAt b::k) (canon E (mO b) st)
 |.loopAt b::k=>D (.code b :: .inLoop b::k) st
 |.code (.exit id)::k=>match k9 id k with
  |some k'=>D k' st
  |none=>none
 |.code (.region id ops draw)::k=>
  bif draw then match(al E.cut st.f).bind (al · id) with
   |some m=>bif Nat.ble 1000 m then bif Region.noSelect ops then explore E C ops (D k) ops.size (Array.replicate ops.size false) st else none
    else bif Hq ops m then D (.aops ops (ops.toList.take m) (ops.toList.take m) :: .ops ops (ops.toList.drop m)::k) st else none
   |none=>none
  else D (.ops ops ops.toList::k) st
 |.ops _ []::k=>D k st
 |.ops all (o::r)::k=>l8 E C all o st fun st=>D (.ops all r::k) st
 |.aops _ [] m::k=>D k (settle m st m)
 |.aops all (o::r) m::k=>tO E C all m st.ob o st.sl fun sl=>D (.aops all r m::k) { st with sl:=sl }
 |_=>none
noncomputable def runM(E:Env)(s:List Sh)(D:List It->St->Option (eU s))(C:bC):Nat->List It->St->Option (eU s)
 |0,t,st=>D t st
 |n+1,t,st=>match t with
  |.loopAt b::k=>D (.loopAt b::k) st
  |t=>ql E s (runM E s D C n) C t st
end
section
theorem Ty.size_pos:∀τ:Ty,0<τ.size
 |.int _=>by simp[Ty.size]
 |.bool=>by simp[Ty.size]
 |.list _=>by simp[Ty.size]
 |.pair a b=>by have:=a.size_pos;simp[Ty.size];omega
def Ce:Obj->Nat
 |.cells cs _ _=>cs.size
 |_=>0
structure Ka(w w':World):Prop where
 os:w'.os=w.os
 tape:w'.tape=w.tape
 output:w'.output=w.output
 len:∀b,b<w.heap.size->(w'.heap[b]?).map Ce=(w.heap[b]?).map Ce
theorem Ka.refl(w:World):Ka w w:=⟨rfl,rfl,rfl,fun _ _=>rfl⟩
structure bM(bad:Nat->Prop)(w w':World):Prop where
 le:w.heap.size<=w'.heap.size
 eq:∀b,b<w.heap.size->¬bad b->w'.heap[b]?=w.heap[b]?
 st:Ka w w'
theorem bM.refl(bad:Nat->Prop)(w:World):bM bad w w:=⟨dD _,fun _ _ _=>rfl,Ka.refl w⟩
theorem bM.trans{bad bad':Nat->Prop}{w w1 w2:World}(h:bM bad w w1)(h':bM bad' w1 w2)(hb:∀b,b<w.heap.size->bad' b->bad b):bM bad w w2:=
 ⟨kz h.1 h'.1,fun b hlt hn=>by rw[h'.2 b (uY hlt h.1) (fun x=>hn (hb b hlt x)),h.2 b hlt hn],
  ⟨h'.st.os.trans h.st.os,h'.st.tape.trans h.st.tape,h'.st.output.trans h.st.output,fun b hlt=>(h'.st.len b (uY hlt h.1)).trans (h.st.len b hlt)⟩⟩
theorem bM.mono{bad bad':Nat->Prop}{w w':World}(h:bM bad w w')(hb:∀b,b<w.heap.size->bad b->bad' b):bM bad' w w':=
 ⟨h.1,fun b hlt hn=>h.2 b hlt fun x=>hn (hb b hlt x),h.st⟩
theorem bM.drew(bad:Nat->Prop)(w:World):bM bad w { w with drawn:=w.drawn+1 }:=⟨dD _,fun _ _ _=>rfl,⟨rfl,rfl,rfl,fun _ _=>rfl⟩⟩
theorem bM.alloc(bad:Nat->Prop)(w:World)(o:Obj):bM bad w { w with heap:=w.heap.push o }:=by
 have h:∀b,b<w.heap.size->(w.heap.push o)[b]?=w.heap[b]?:=fun b hb=>by rw[Q8,ab (by omega)]
 exact⟨by simp,fun b hb _=>h b hb,⟨rfl,rfl,rfl,fun b hb=>by rw[h b hb]⟩⟩
theorem cell_of{w:World}{b:Nat}{c:Array Value}{e:TypeId}{fr:Nat×Nat}(h:w.heap[b]?=some (.cells c e fr))(o:Nat):
  w.cell? ⟨b,o,none⟩=c[o]?:=by simp[World.cell?,h]
theorem Lu{bad:Nat->Prop}{w w':World}(h:bM bad w w'){b o:Nat}{v:Value}(hn:¬bad b)(hc:w.cell? ⟨b,o,none⟩=some v):
  w'.cell? ⟨b,o,none⟩=some v:=by
 have hlt:=JQ _ _ hc;have:=h.2 b hlt hn;simp only[World.cell?]at hc ⊢;rw[this];exact hc
def At(w:World)(b o:Nat)(cs:List Value):Prop:=∀j v,cs[j]?=some v->w.cell? ⟨b,o+j,none⟩=some v
theorem At.same{bad:Nat->Prop}{w w':World}(h:bM bad w w'){b o:Nat}{cs:List Value}(hn:¬bad b)(ha:At w b o cs):At w' b o cs:=
 fun j v hj=>Lu h hn (ha j v hj)
theorem At.lt{w:World}{b o:Nat}{cs:List Value}(h:At w b o cs)(hl:0<cs.length):b<w.heap.size:=by
 obtain⟨v,r,rfl⟩:∃v r,cs=v::r:=by cases cs with|nil=>simp at hl|cons v r=>exact⟨v,r,rfl⟩
 exact JQ _ _ (h 0 v rfl)
def enc(w:World)(bad:Nat->Prop):(τ:Ty)->τ.den->List Value->Prop
 |.int κ,n,cs=>cs=[.int κ n]
 |.bool,b,cs=>cs=[.bool b]
 |.list e,l,cs=>∃A c,cs=[.slice A (List.length (α:=e.den) l) c]/\List.length (α:=e.den) l<=c/\(A=none->c=0) /\
   ∀a,A=some a->∀(i:Nat) (x:e.den),(show List e.den from l)[i]?=some x->a.spot=none/\¬bad a.block/\∃ds,enc w bad e x ds/\At w a.block (a.off+i*e.size) ds
 |.pair a b,v,cs=>∃c1 c2,cs=c1++c2/\enc w bad a v.1 c1/\enc w bad b v.2 c2
theorem dK{w:World}{bad:Nat->Prop}:∀{τ:Ty} {v:τ.den} {cs:List Value},enc w bad τ v cs->cs.length=τ.size
 |.int κ,n,cs,h=>by simp only[enc]at h;subst h;rfl
 |.bool,b,cs,h=>by simp only[enc]at h;subst h;rfl
 |.list e,l,cs,h=>by obtain⟨A,c,rfl,_⟩:=h;rfl
 |.pair a b,v,cs,h=>by obtain⟨c1,c2,rfl,h1,h2⟩:=h;have:=dK h1;have:=dK h2;simp[Ty.size];omega
theorem fe{w w':World}{bad0 bad bad':Nat->Prop}(hs:bM bad0 w w')(h0:∀b,b<w.heap.size->bad0 b->bad b)(hb:∀b,b<w.heap.size->bad' b->bad b):
  ∀{τ:Ty} {v:τ.den} {cs:List Value},enc w bad τ v cs->enc w' bad' τ v cs
 |.int κ,n,cs,h=>h
 |.bool,b,cs,h=>h
 |.list e,l,cs,h=>by obtain⟨A,c,rfl,hc,hz,hr⟩:=h;refine⟨A,c,rfl,hc,hz,fun a ha i x hx=>?_⟩;obtain⟨hsp,hn,ds,he,hat⟩:=hr a ha i x hx;have hlt:a.block<w.heap.size:=hat.lt (by rw[dK he];exact Ty.size_pos e);exact⟨hsp,fun x=>hn (hb _ hlt x),ds,fe hs h0 hb he,hat.same hs (fun x=>hn (h0 _ hlt x))⟩
 |.pair a b,v,cs,h=>by obtain⟨c1,c2,rfl,h1,h2⟩:=h;exact⟨c1,c2,rfl,fe hs h0 hb h1,fe hs h0 hb h2⟩
def Row(w:World)(bad:Nat->Prop)(τ:Ty)(l:List τ.den)(b o c:Nat):Prop:=
 ∃cells elem,w.heap[b]?=some (.cells cells elem (0,0))/\(l.length<=c/\c<=9223372036854775807)/\o+c*τ.size<=cells.size /\
  ∀(i:Nat) (x:τ.den),l[i]?=some x->∃ds,enc w bad τ x ds/\∀(j:Nat) v,ds[j]?=some v->cells[o+i*τ.size+j]?=some v
theorem Row.lt{w:World}{bad:Nat->Prop}{τ:Ty}{l:List τ.den}{b o c:Nat}(h:Row w bad τ l b o c):b<w.heap.size:=by obtain⟨cells,elem,h,_⟩:=h;rcases iQ b w.heap.size with hl|hl;exact hl;rw[OU hl]at h;cases h
theorem Row.mono{w w':World}{bad0 bad bad':Nat->Prop}{τ:Ty}{l:List τ.den}{b o c:Nat}(hs:bM bad0 w w')(h0:∀b,b<w.heap.size->bad0 b->bad b)(hb:∀b,b<w.heap.size->bad' b->bad b)
  (hn:¬bad0 b) (h:Row w bad τ l b o c):Row w' bad' τ l b o c:=by
 have hlt:=h.lt;obtain⟨cells,elem,hh,hl,hc,hr⟩:=h;refine⟨cells,elem,by rw[hs.2 b hlt hn];exact hh,hl,hc,fun i x hx=>?_⟩;obtain⟨ds,he,hd⟩:=hr i x hx;exact⟨ds,fe hs h0 hb he,hd⟩
abbrev bd:=Nat->Option (Nat×Nat×Nat)
def sJ(β:bd)(key size off len:Nat)(v:Value):Prop:=
 match β key with
 |none=>(∃A,v = .slice A 0 0)/\len=0
 |some (b,o,c0)=>∃A c,v = .slice (some ⟨b,A,none⟩) len c/\len<=c/\off+c<=c0/\(c≠0->A=o+off*size)
def kj(τ:Ty)(v:Value)(cs:List Value):Prop:=
 match τ with
 |.pair _ _=>v = .agg cs.toArray
 |_=>cs=[v]
def A8(w:World)(bad:Nat->Prop)(τ:Ty)(x:τ.den)(v:Value):Prop:=∃cs,kj τ v cs/\enc w bad τ x cs
section
variable (β:bd) (ob:cW) (w:World) (bad:Nat->Prop)
def qM(τ:Ty)(l:List τ.den)(v:Value)(bs:Ln):Prop:=
 ((∃A,v = .slice A 0 0)/\l=[]/\bs=[])\/∃b o c,bs=[b]/\v = .slice (some ⟨b,o,none⟩) l.length c/\Row w bad τ l b o c
def eO:AV->Value->Ln->Prop
 |.any,_,bs=>bs=[]
 |.non,v,bs=>v=undef/\bs=[]
 |.d τ x,v,bs=>bs=[]/\A8 w bad τ x v
 |.nil,v,bs=>bs=[]/\v = .slice none 0 0
 |.full τ l,v,bs=>bs=[]/\∃A,v = .slice A l.length l.length/\enc w bad (.list τ) l [v]
 |.new τ l,v,bs=>qM w bad τ l v bs
 |.ow key,v,bs=>bs=[]/\∃τ l,al ob key=some (.row τ l)/\sJ β key τ.size 0 l.length v
 |.own key off len,v,bs=>bs=[]/\∃τ l,al ob key=some (.row τ l)/\off+len<=l.length/\sJ β key τ.size off len v
 |.arr n τ l,v,bs=>bs=[]/\l.length=n/\∃css:List (List Value),v = .agg css.flatten.toArray/\css.length=l.length/\∀(i:Nat) (x:τ.den),l[i]?=some x->∃ds,css[i]?=some ds/\enc w bad τ x ds
 |.narr n τ l,v,bs=>l.length=n/\∃b,bs=[b]/\v = .pointer (some ⟨b,0,none⟩)/\Row w bad τ l b 0 l.length
 |.ptr key off,v,bs=>bs=[]/\∃b c cs,β key=some (b,0,c)/\al ob key=some (.box cs)/\v = .pointer (some ⟨b,off,none⟩)
 |.ap key n,v,bs=>bs=[]/\∃τ l b c,al ob key=some (.row τ l)/\l.length=n/\β key=some (b,0,c)/\v = .pointer (some ⟨b,0,none⟩)
 |.rop τ x,v,bs=>bs=[]/\∃a cs,v = .pointer (some a)/\a.spot=none/\¬bad a.block/\enc w bad τ x cs/\At w a.block a.off cs
 |.rptr key j off,v,bs=>bs=[]/\∃τ l b o c,al ob key=some (.row τ l)/\β key=some (b,o,c)/\v = .pointer (some ⟨b,o+j*τ.size+off,none⟩)
 |_,_,_=>False
inductive Vs(r:AV->Value->Ln->Prop):List AV->List Value->Ln->Prop
 |nil:Vs r [] [] []
 |cons {a as v vs b bs}:r a v b->Vs r as vs bs->Vs r (a::as) (v::vs) (b++bs)
def jf:AV->Value->Ln->Prop
 |.agg cs,v,bs=>∃vs:List Value,v = .agg vs.toArray/\Vs (eO β ob w bad) cs vs bs
 |.nbox cs,v,bs=>∃b cells elem bs',v = .pointer (some ⟨b,0,none⟩)/\bs=b::bs'/\w.heap[b]?=some (.cells cells elem (0,0))/\Vs (eO β ob w bad) cs cells.toList bs'
 |.fn f caps,v,bs=>bs=[]/\∃vs:List Value,v = .func (.func f) #[] vs.toArray/\Vs (eO β ob w bad) caps vs []
 |a,v,bs=>eO β ob w bad a v bs
def c9:AV->Value->Ln->Prop
 |.tup as,v,bs=>∃vs:List Value,v = .tuple vs.toArray/\Vs (jf β ob w bad) as vs bs
 |a,v,bs=>jf β ob w bad a v bs
end
theorem CN{w w':World}{bad0 bad bad':Nat->Prop}(hs:bM bad0 w w')(h0:∀b,b<w.heap.size->bad0 b->bad b)(hb:∀b,b<w.heap.size->bad' b->bad b)
  {τ:Ty} {x:τ.den} {v:Value} (h:A8 w bad τ x v):A8 w' bad' τ x v:=by
 obtain⟨cs,hv,he⟩:=h;exact⟨cs,hv,fe hs h0 hb he⟩
theorem KH{w w':World}{bad0 bad bad':Nat->Prop}(hs:bM bad0 w w')(h0:∀b,b<w.heap.size->bad0 b->bad b)(hb:∀b,b<w.heap.size->bad' b->bad b)
  {τ:Ty} {l:List τ.den} {v:Value} {bs:Ln} (hn:∀b∈bs,¬bad0 b) (h:qM w bad τ l v bs):qM w' bad' τ l v bs:=by
 rcases h with h|⟨b,o,c,rfl,hv,hr⟩;exact .inl h;exact .inr ⟨b,o,c,rfl,hv,hr.mono hs h0 hb (hn b (by simp))⟩
theorem fO{β:bd}{ob:cW}{w w':World}{bad0 bad bad':Nat->Prop}(hs:bM bad0 w w')(h0:∀b,b<w.heap.size->bad0 b->bad b)(hb:∀b,b<w.heap.size->bad' b->bad b):
  ∀{a:AV} {v:Value} {bs:Ln},(∀b∈bs,¬bad0 b)->eO β ob w bad a v bs->eO β ob w' bad' a v bs:=by
 intro a v bs hn h;cases a with
 |d τ x=>exact⟨h.1,CN hs h0 hb h.2⟩
 |full τ l=>obtain⟨h1,A,h2,h3⟩:=h;exact⟨h1,A,h2,fe hs h0 hb h3⟩
 |new τ l=>exact KH hs h0 hb hn h
 |arr n τ l=>obtain⟨h1,hn',css,h2,h3,h4⟩:=h;exact⟨h1,hn',css,h2,h3,fun i x hx=>let ⟨ds,hd,he⟩:=h4 i x hx;⟨ds,hd,fe hs h0 hb he⟩⟩
 |narr n τ l=>obtain⟨hn',b,rfl,h2,h3⟩:=h;exact⟨hn',b,rfl,h2,h3.mono hs h0 hb (hn b (by simp))⟩
 |rop τ x=>obtain⟨h1,ad,cs,h2,h3,h4,h5,h6⟩:=h;have hlt:ad.block<w.heap.size:=h6.lt (by rw[dK h5];exact Ty.size_pos τ);exact⟨h1,ad,cs,h2,h3,fun x=>h4 (hb _ hlt x),fe hs h0 hb h5,h6.same hs (fun x=>h4 (h0 _ hlt x))⟩
 |_=>exact h
theorem Vs.imp{r r':AV->Value->Ln->Prop}{as:List AV}{vs:List Value}{bs:Ln}(h:Vs r as vs bs):
  (∀a v b,(∀x∈b,x∈bs)->r a v b->r' a v b)->Vs r' as vs bs:=by
 induction h with
 |nil=>intro _;exact .nil
 |cons h1 _ ih=>intro hi;exact .cons (hi _ _ _ (fun x hx=>by simp[hx]) h1) (ih fun a v b hb hr=>hi a v b (fun x hx=>by simp[hb x hx]) hr)
theorem dV{β:bd}{ob:cW}{w w':World}{bad0 bad bad':Nat->Prop}(hs:bM bad0 w w')(h0:∀b,b<w.heap.size->bad0 b->bad b)(hb:∀b,b<w.heap.size->bad' b->bad b)
  {a:AV} {v:Value} {bs:Ln} (hn:∀b∈bs,¬bad0 b) (h:jf β ob w bad a v bs):jf β ob w' bad' a v bs:=by
 have lift:∀{cs:List AV} {vs:List Value} {bs':Ln},(∀b∈bs',¬bad0 b)->Vs (eO β ob w bad) cs vs bs'->Vs (eO β ob w' bad') cs vs bs':=
  fun hn' hv=>hv.imp fun a v b hb' hr=>fO hs h0 hb (fun x hx=>hn' x (hb' x hx)) hr
 cases a with
 |agg cs=>obtain⟨vs,rfl,hv⟩:=h;exact⟨vs,rfl,lift hn hv⟩
 |nbox cs=>
  obtain⟨b,cells,elem,bs',rfl,rfl,hh,hv⟩:=h
  refine⟨b,cells,elem,bs',rfl,rfl,?_,lift (fun x hx=>hn x (by simp[hx])) hv⟩
  rw[hs.2 b ?_ (hn b (by simp))];· exact hh
  rcases iQ b w.heap.size with hl|hl
  .exact hl
  .rw[OU hl]at hh;cases hh
 |fn f caps=>obtain⟨rfl,vs,rfl,hv⟩:=h;exact⟨rfl,vs,rfl,lift (by simp) hv⟩
 |any=>exact h
 |non=>exact h
 |d τ x=>exact fO (β:=β) (ob:=ob) (a:=.d τ x) hs h0 hb hn h
 |nil=>exact fO (β:=β) (ob:=ob) (a:=.nil) hs h0 hb hn h
 |full τ l=>exact fO (β:=β) (ob:=ob) (a:=.full τ l) hs h0 hb hn h
 |new τ l=>exact fO (β:=β) (ob:=ob) (a:=.new τ l) hs h0 hb hn h
 |ow k=>exact fO (β:=β) (ob:=ob) (a:=.ow k) hs h0 hb hn h
 |own k o l=>exact fO (β:=β) (ob:=ob) (a:=.own k o l) hs h0 hb hn h
 |arr n τ l=>exact fO (β:=β) (ob:=ob) (a:=.arr n τ l) hs h0 hb hn h
 |narr n τ l=>exact fO (β:=β) (ob:=ob) (a:=.narr n τ l) hs h0 hb hn h
 |ptr k o=>exact fO (β:=β) (ob:=ob) (a:=.ptr k o) hs h0 hb hn h
 |ap k n=>exact fO (β:=β) (ob:=ob) (a:=.ap k n) hs h0 hb hn h
 |rop τ x=>exact fO (β:=β) (ob:=ob) (a:=.rop τ x) hs h0 hb hn h
 |rptr k j o=>exact fO (β:=β) (ob:=ob) (a:=.rptr k j o) hs h0 hb hn h
 |tup vs=>exact h.elim
theorem fY{β:bd}{ob:cW}{w w':World}{bad0 bad bad':Nat->Prop}(hs:bM bad0 w w')(h0:∀b,b<w.heap.size->bad0 b->bad b)(hb:∀b,b<w.heap.size->bad' b->bad b)
  {a:AV} {v:Value} {bs:Ln} (hn:∀b∈bs,¬bad0 b) (h:c9 β ob w bad a v bs):c9 β ob w' bad' a v bs:=by
 cases a with
 |tup as=>obtain⟨vs,rfl,hv⟩:=h;exact⟨vs,rfl,hv.imp fun a v b hb' hr=>dV hs h0 hb (fun x hx=>hn x (hb' x hx)) hr⟩
 |any=>exact h
 |non=>exact h
 |agg cs=>exact dV (β:=β) (ob:=ob) (a:=.agg cs) hs h0 hb hn h
 |nbox cs=>exact dV (β:=β) (ob:=ob) (a:=.nbox cs) hs h0 hb hn h
 |fn f caps=>exact dV (β:=β) (ob:=ob) (a:=.fn f caps) hs h0 hb hn h
 |d τ x=>exact dV (β:=β) (ob:=ob) (a:=.d τ x) hs h0 hb hn h
 |nil=>exact dV (β:=β) (ob:=ob) (a:=.nil) hs h0 hb hn h
 |full τ l=>exact dV (β:=β) (ob:=ob) (a:=.full τ l) hs h0 hb hn h
 |new τ l=>exact dV (β:=β) (ob:=ob) (a:=.new τ l) hs h0 hb hn h
 |ow k=>exact dV (β:=β) (ob:=ob) (a:=.ow k) hs h0 hb hn h
 |own k o l=>exact dV (β:=β) (ob:=ob) (a:=.own k o l) hs h0 hb hn h
 |arr n τ l=>exact dV (β:=β) (ob:=ob) (a:=.arr n τ l) hs h0 hb hn h
 |narr n τ l=>exact dV (β:=β) (ob:=ob) (a:=.narr n τ l) hs h0 hb hn h
 |ptr k o=>exact dV (β:=β) (ob:=ob) (a:=.ptr k o) hs h0 hb hn h
 |ap k n=>exact dV (β:=β) (ob:=ob) (a:=.ap k n) hs h0 hb hn h
 |rop τ x=>exact dV (β:=β) (ob:=ob) (a:=.rop τ x) hs h0 hb hn h
 |rptr k j o=>exact dV (β:=β) (ob:=ob) (a:=.rptr k j o) hs h0 hb hn h
end
section
def zeroV:(τ:Ty)->List Value
 |.int κ=>[.int κ 0]
 |.bool=>[.bool false]
 |.list _=>[.slice none 0 0]
 |.pair a b=>zeroV a++zeroV b
def BD:Value->Value->Bool
 |.int κ n,.int κ' m=>κ==κ'&&n==m
 |.bool a,.bool b=>a==b
 |.slice none 0 0,.slice none 0 0=>true
 |_,_=>false
def od:List Value->List Value->Bool
 |[],[]=>true
 |a::r,b::s=>BD a b&&od r s
 |_,_=>false
theorem Gw:∀{a b:Value},BD a b=true->a=b:=by intro a b h;unfold BD at h;split at h;simp at h;obtain⟨rfl,rfl⟩:=h;rfl;simp at h;subst h;rfl;rfl;cases h
theorem ua:∀{a b:List Value},od a b=true->a=b
 |[],[],_=>rfl
 |a::r,b::s,h=>by simp only[od,eJ]at h;rw[Gw h.1,ua h.2]
 |[],_::_,h=>by simp[od]at h
 |_::_,[],h=>by simp[od]at h
mutual
def pV(P:Program):Nat->TypeId->Ty->Bool
 |0,_,_=>false
 |n+1,t,τ=>
  match P.info? t with
  |none=>false
  |some i=>
   i.size==τ.size&&(Nat.ble 1 i.bytes&&Nat.ble i.bytes 1024)&&(match i.zero with|some z=>od z.cells.toList (zeroV τ)&&(match τ,z with|.pair _ _,.agg _=>true|.pair _ _,_=>false|_,.agg _=>false|_,_=>true)|none=>false) &&
   (match τ,P.underlying t with
    |.int κ,some (.int κ')=>κ==κ'
    |.bool,some .bool=>true
    |.list e,some (.slice te)=>pV P n te e
    |.pair a b,some (.struct fs)=>sx P n fs.toList 0 (.pair a b)
    |_,_=>false)
def sx(P:Program):Nat->List Field->Nat->Ty->Bool
 |0,_,_,_=>false
 |n+1,fs,off,τ=>
  match fs,τ with
  |[f],τ=>f.offset==off&&pV P n f.type τ
  |f::g::r,.pair a b=>f.offset==off&&pV P n f.type a&&sx P n (g::r) (off+a.size) b
  |_,_=>false
end
structure gE(P:Program)(t:TypeId)(τ:Ty):Prop where
 ok:∃n,pV P n t τ=true
theorem gE.info{P:Program}{t:TypeId}{τ:Ty}(h:gE P t τ):
  ∃i z,P.info? t=some i/\i.size=τ.size/\i.bytes<=1024/\i.zero=some z/\z.cells.toList=zeroV τ/\kj τ z (zeroV τ):=by
 obtain⟨n,h⟩:=h.ok;cases n with
 |zero=>simp[pV]at h
 |succ n=>
  unfold pV at h;split at h;cases h
  .rename_i i hi;simp only[eJ,Dq]at h;obtain⟨⟨⟨h1,h2⟩,h3⟩,_⟩:=h;split at h3
   .rename_i z hz;simp only[eJ]at h3;obtain⟨h3,h4⟩:=h3;have h3:=ua h3;refine⟨i,z,hi,h1,JP h2.2,hz,h3,?_⟩;cases τ with
    |pair a b=>cases z<;>simp_all [Value.cells,kj];rw[<-h3]
    |_=>rw[<-h3];cases z<;>simp_all [Value.cells,kj]
   cases h3
theorem gE.bytes{P:Program}{t:TypeId}{τ:Ty}(h:gE P t τ):1<=P.bytesOf t:=by
 obtain⟨n,h⟩:=h.ok;cases n with
 |zero=>simp[pV]at h
 |succ n=>unfold pV at h;split at h;cases h;rename_i i hi;simp only[eJ,Dq]at h;obtain⟨⟨⟨_,h2⟩,_⟩,_⟩:=h;simp only[Program.bytesOf,hi,OS,JL];exact JP h2.1
theorem gE.intU{P:Program}{t:TypeId}{κ:IntKind}(h:gE P t (.int κ)):P.underlying t=some (.int κ):=by
 obtain⟨n,h⟩:=h.ok;cases n with
 |zero=>simp[pV]at h
 |succ n=>unfold pV at h;split at h;cases h;.simp only[eJ]at h;obtain⟨_,h⟩:=h;split at h<;>simp_all
theorem gE.boolU{P:Program}{t:TypeId}(h:gE P t .bool):P.underlying t=some .bool:=by
 obtain⟨n,h⟩:=h.ok;cases n with
 |zero=>simp[pV]at h
 |succ n=>unfold pV at h;split at h;cases h;.simp only[eJ]at h;obtain⟨_,h⟩:=h;split at h<;>simp_all
theorem gE.listU{P:Program}{t:TypeId}{e:Ty}(h:gE P t (.list e)):∃te,P.underlying t=some (.slice te)/\gE P te e:=by
 obtain⟨n,h⟩:=h.ok;cases n with
 |zero=>simp[pV]at h
 |succ n=>
  unfold pV at h;split at h;cases h
  .simp only[eJ]at h;obtain⟨_,h⟩:=h;split at h
   .simp_all
   .simp_all
   rename_i h1 h2;cases h1;exact⟨_,h2,⟨_,h⟩⟩
   .simp_all
   cases h
inductive nV(P:Program):List Field->Nat->Ty->Prop
 |one {f off τ}:f.offset=off->gE P f.type τ->nV P [f] off τ
 |more {f g r off a b}:f.offset=off->gE P f.type a->nV P (g::r) (off+a.size) b->nV P (f::g::r) off (.pair a b)
theorem FA{P:Program}:∀{n:Nat} {fs:List Field} {off:Nat} {τ:Ty},sx P n fs off τ=true->nV P fs off τ
 |0,_,_,_,h=>by simp[sx]at h
 |n+1,fs,off,τ,h=>by unfold sx at h;split at h;simp only[eJ,Dq]at h;exact .one h.1 ⟨_,h.2⟩;simp only[eJ,Dq]at h;exact .more h.1.1 ⟨_,h.1.2⟩ (FA h.2);cases h
theorem gE.pairU{P:Program}{t:TypeId}{a b:Ty}(h:gE P t (.pair a b)):∃fs,P.underlying t=some (.struct fs)/\nV P fs.toList 0 (.pair a b):=by
 obtain⟨n,h⟩:=h.ok;cases n with
 |zero=>simp[pV]at h
 |succ n=>
  unfold pV at h;split at h;cases h
  .simp only[eJ]at h;obtain⟨_,h⟩:=h;split at h
   .simp_all
   .simp_all
   .simp_all
   rename_i h1 h2;cases h1;exact⟨_,h2,FA h⟩;cases h
theorem gE.agg{P:Program}{t:TypeId}{τ:Ty}(h:gE P t τ)(w:World):
  (isAgg t).run P w = .ok (match τ with|.pair _ _=>true|_=>false) w:=by
 cases τ with
 |int κ=>simp[isAgg,uX h.intU]
 |bool=>simp[isAgg,uX h.boolU]
 |list e=>obtain⟨te,hu,_⟩:=h.listU;simp[isAgg,uX hu]
 |pair a b=>obtain⟨fs,hu,_⟩:=h.pairU;simp[isAgg,uX hu]
structure jJ(P:Program)(E:Env):Prop where
 ty:∀t τ,al E.ty t=some τ->gE P t τ
 fs:∀t n l,al E.fs t=some (n,l)->∃fields τ,P.underlying t=some (.struct fields)/\l=fields.toList.map (fun f=>(f.offset,f.type))/\al E.ty t=some τ/\τ.size=n/\(∃a b,τ = .pair a b)/\nV P fields.toList 0 τ
 ar:∀t n e,al E.ar t=some (n,e)->∃te i,P.underlying t=some (.array n te)/\gE P te e/\P.info? t=some i/\i.size=n*e.size/\i.zero=some (.agg (List.replicate n (zeroV e)).flatten.toArray)
 fn : ∀ f fn, al E.fn f = some fn → P.funcs[f]? = some fn ∧ (fn.name == "runtime.NumGoroutine") = false
 eq : ∀ t, (al E.eq t).isSome = true → P.stoodInHeld t = false ∧ P.eqGuardType P.depth t = false ∧ (P.fieldsOf t).toList.length = 2 ∧ ∀ f ∈ (P.fieldsOf t).toList, f.name ≠ "_"
def r8{α:Type}(l:List (Nat×α))(p:Nat->α->Bool):Bool:=l.all fun x=>p x.1 x.2
theorem lJ{α:Type}:∀{l:List (Nat×α)} {k:Nat} {x:α},al l k=some x->(k,x)∈l
 |[],_,_,h=>by simp[al]at h
 |(j,y)::r,k,x,h=>by
  simp only[al]at h;cases hb:Nat.beq j k with
  |true=>rw[hb]at h;simp at h;subst h;have:=xN hb;subst this;simp
  |false=>rw[hb]at h;simp at h;simp[lJ h]
theorem kX{α:Type}{l:List (Nat×α)}{p:Nat->α->Bool}(h:r8 l p=true){k:Nat}{x:α}(hk:al l k=some x):p k x=true:=by simp only[r8,uQ]at h;exact h _ (lJ hk)
end
section
def dd(β:bd)(ob:cW)(b:Nat):Prop:=∃key x o c,al ob key=some x/\β key=some (b,o,c)
def Av(b0:Nat->Prop)(β:bd)(ob:cW)(f:Nat->Ln)(b:Nat):Prop:=b0 b\/dd β ob b\/∃i,b∈f i
structure rM(b0:Nat->Prop)(β:bd)(ob:cW)(w:World)(av:Nat->Prop):Prop where
 row:∀key τ l,al ob key=some (.row τ l)->(β key=none/\l=[])\/∃b o c,β key=some (b,o,c)/\Row w av τ l b o c
 box:∀key cs,al ob key=some (.box cs)->∃b cells elem,β key=some (b,0,cs.length)/\w.heap[b]?=some (.cells cells elem (0,0))/\Vs (jf β ob w av) cs cells.toList []
 apart:∀k1 k2 x1 x2 b o1 c1 o2 c2,al ob k1=some x1->al ob k2=some x2->β k1=some (b,o1,c1)->β k2=some (b,o2,c2)->k1=k2
 lt:∀b,dd β ob b->b<w.heap.size/\¬b0 b
structure SR(b0:Nat->Prop)(β:bd)(ob:cW)(w:World)(sl:List AV)(tmps:Array Value)(f:Nat->Ln):Prop where
 obs:rM b0 β ob w (Av b0 β ob f)
 slot:∀i,c9 β ob w (Av b0 β ob f) (sl.getD i .any) (tmps.getD i undef) (f i)
 size:tmps.size=sl.length
 fresh:∀i b,b∈f i->b<w.heap.size/\¬b0 b/\¬dd β ob b
 nodup:∀i,(f i).Nodup
 disj:∀i j b,b∈f i->b∈f j->i=j
 b0lt:∀b,b0 b->b<w.heap.size
structure jF(b0:Nat->Prop)(β:bd)(ob:cW)(f:Nat->Ln)(used:Ln)(w w':World)(av:AV)(v:Value)(bs:Ln):Prop where
 same:bM (fun b=>∃i,i∈used/\b∈f i) w w'
 rel:c9 β ob w' (fun b=>b0 b\/dd β ob b\/(∃i,i∉used/\b∈f i)\/b∈bs) av v bs
 nodup:bs.Nodup
 from_:∀b,b∈bs->b<w'.heap.size/\((∃i,i∈used/\b∈f i)\/w.heap.size<=b)
section
variable {b0:Nat->Prop} {β:bd} {ob:cW} {w:World} {f:Nat->Ln}
theorem jF.stay{used:Ln}{av:AV}{v:Value}(h:c9 β ob w (Av b0 β ob f) av v []):jF b0 β ob f used w w av v [] where
 same:=bM.refl _ _
 rel:=fY (bad0:=fun _=>False) (bM.refl _ w) (fun _ _ x=>x.elim) (fun b _ hb=>by rcases hb with h|h|⟨i,_,h⟩|h;exact .inl h;exact .inr (.inl h);exact .inr (.inr ⟨i,h⟩);cases h) (fun _ _ x=>x) h
 nodup:=rN
 from_:=fun b h=>by cases h
theorem oV{P:Program}{o:Oper}{a:Act}{w w':World}{next:Act->World->Prop}{Q:Exit->Act->World->Prop}{v:Value}
  (h:(execOp a.eval o).run P w = .ok (.value v) w') (hn:next (a.put o.dst v) w'):o.wp P a w next Q:=by
 simp only[Oper.wp,h,Oper.upon];exact hn
theorem uZ{sl:List AV}{a:Act}(h:SR b0 β ob w sl a.tmps f)(x:Operand):
  ∃bs,c9 β ob w (Av b0 β ob f) (bk sl x) (a.eval x) bs/\bs.Nodup/\(∀b,b∈bs->∃t,x = .tmp t/\b∈f t)/\(∀t,x = .tmp t->bs=f t):=by
 cases x with
 |tmp t=>exact⟨f t,h.slot t,h.nodup t,fun b hb=>⟨t,rfl,hb⟩,fun s hs=>by cases hs;rfl⟩
 |const v=>refine⟨[],?_,rN,(fun b hb=>by cases hb),fun t ht=>by cases ht⟩;show c9 β ob w _ (zx v) v [];unfold zx;split;exact⟨rfl,_,rfl,rfl⟩;exact⟨rfl,_,rfl,rfl⟩;exact⟨rfl,rfl⟩;rfl
 |global g=>exact⟨[],rfl,rN,fun b hb=>(by cases hb),fun t ht=>by cases ht⟩
 |func g=>exact⟨[],⟨rfl,[],rfl,.nil⟩,rN,fun b hb=>(by cases hb),fun t ht=>by cases ht⟩
theorem cP{bad:Nat->Prop}{κ:IntKind}{n:Int}{v:Value}{bs:Ln}(h:c9 β ob w bad (.d (.int κ) n) v bs):v = .int κ n/\bs=[]:=by obtain⟨rfl,cs,hv,he⟩:=h;simp only[kj,enc]at hv he;subst he;exact⟨by simpa using hv.symm,rfl⟩
theorem iG{bad:Nat->Prop}{x:Bool}{v:Value}{bs:Ln}(h:c9 β ob w bad (.d .bool x) v bs):v = .bool x/\bs=[]:=by obtain⟨rfl,cs,hv,he⟩:=h;simp only[kj,enc]at hv he;subst he;exact⟨by simpa using hv.symm,rfl⟩
theorem iy{bad:Nat->Prop}(κ:IntKind)(n:Int):c9 β ob w bad (.d (.int κ) n) (.int κ n) []:=⟨rfl,_,rfl,rfl⟩
theorem p8{bad:Nat->Prop}(x:Bool):c9 β ob w bad (.d .bool x) (.bool x) []:=⟨rfl,_,rfl,rfl⟩
theorem yd{R:Type}{v:AV}{k:Bool->Option R}{r:R}(h:xr v k=some r):∃b,v = .d .bool b/\k b=some r:=by unfold xr at h;split at h;exact⟨_,rfl,h⟩;cases h
theorem gH{R:Type}{v:AV}{k:IntKind->Int->Option R}{r:R}(h:ux v k=some r):∃κ n,v = .d (.int κ) n/\k κ n=some r:=by unfold ux at h;split at h;exact⟨_,_,rfl,h⟩;cases h
theorem L7{P:Program}{R:Type}{op:UnOp}{x:AV}{k:AV->Option R}{r:R}(hk:PO op x k=some r){bad:Nat->Prop}{v:Value}{bs:Ln}(hx:c9 β ob w bad x v bs):
  ∃av u,k av=some r/\(Op.unary op v).run P w = .ok u w/\(∀bad',c9 β ob w bad' av u []):=by
 unfold PO at hk;split at hk;obtain⟨rfl,_⟩:=iG hx;exact⟨_,_,hk,rfl,fun _=>p8 _⟩;obtain⟨rfl,_⟩:=cP hx;exact⟨_,_,hk,by simp[Op.unary,Op.intArith],fun _=>iy _ _⟩;obtain⟨rfl,_⟩:=cP hx;exact⟨_,_,hk,by simp[Op.unary,Op.intBits,dj],fun _=>iy _ _⟩;cases hk
theorem BG{P:Program}{t:TypeId}{d:Nat}{a b:Bool}(hu:P.underlying t=some .bool):(Op.equalIn (d+1) t (.bool a) (.bool b)).run P w = .ok (a==b) w:=by simp[Op.equalIn,uX hu]
theorem p7{x:AV}{p:(IntKind×Int)×(IntKind×Int)}(h:tf x=some p){bad:Nat->Prop}{v:Value}{bs:Ln}(hx:c9 β ob w bad x v bs):
  v = .agg #[.int p.1.1 p.1.2,.int p.2.1 p.2.2]/\∀w' bad',c9 β ob w' bad' x v []:=by
 unfold tf at h;split at h;cases h;obtain⟨rfl,cs,hv,c1,c2,rfl,he1,he2⟩:=hx;simp only[enc]at he1 he2;subst he1;subst he2;simp only[kj]at hv;subst hv;exact⟨rfl,fun _ _=>⟨rfl,_,rfl,_,_,rfl,rfl,rfl⟩⟩
 .cases h;obtain⟨vs,rfl,hv⟩:=hx;cases hv with
  |cons h1 hv=>
   cases hv with
   |cons h2 hv=>cases hv;obtain⟨rfl,-⟩:=cP (β:=β) (ob:=ob) (w:=w) h1;obtain⟨rfl,-⟩:=cP (β:=β) (ob:=ob) (w:=w) h2;exact⟨rfl,fun w' bad'=>⟨_,rfl,.cons (b:=[]) (iy (β:=β) (ob:=ob) (w:=w') (bad:=bad') _ _) (.cons (b:=[]) (iy (β:=β) (ob:=ob) (w:=w') (bad:=bad') _ _) .nil)⟩⟩
 cases h
theorem wQ{P:Program}{t:TypeId}{κ:IntKind}{cs:Array Value}{o:Nat}{v:Value}(hu:P.underlying t=some (.int κ))(hc:cs[o]?=some v):(part t cs o).run P w = .ok v w:=by simp[part,isAgg,uX hu,hc]
theorem BF{P : Program}{t : TypeId}{κ κ' : IntKind}{a b c d : Int}(hE : gE P t (.pair (.int κ) (.int κ')))(h1 : P.stoodInHeld t = false)(hl : (P.fieldsOf t).toList.length = 2)(h2 : ∀ f ∈ (P.fieldsOf t).toList, f.name ≠ "_"):
  (Op.equalIn 10000 t (.agg #[.int κ a,.int κ' b]) (.agg #[.int κ c,.int κ' d])).run P w = .ok (a==c&&b==d) w:=by
 obtain⟨fs,hu,hf⟩:=hE.pairU;have hfs:P.fieldsOf t=fs:=by simp[Program.fieldsOf,hu]
 rw[run_equalIn_struct w 9999 t _ _ (by rw[hfs];exact hu) h1];rw[<-hfs]at hf;generalize (P.fieldsOf t).toList=l at hl h2 hf ⊢;generalize hτ:Ty.pair (.int κ) (.int κ')=τ at hf;cases hf with
 |one _ _=>simp at hl
 |more o1 t1 hf2=>
  rename_i f g r a' b';cases hτ;obtain rfl:r=[]:=by simpa using hl
  cases hf2 with
  |one o2 t2=>
   have n1 : f.name ≠ "_" := h2 f (by simp)
   have n2 : g.name ≠ "_" := h2 g (by simp)
   have o2':g.offset=1:=o2;simp only[Op.eqFields,aa n1,aa n2,u7,o1,o2'];rw[wQ t1.intU (show(#[Value.int κ a,.int κ' b]:Array Value)[0]?=some (.int κ a) from rfl),u9,wQ t1.intU (show(#[Value.int κ c,.int κ' d]:Array Value)[0]?=some (.int κ c) from rfl),u9,
    run_equalIn_int w 9998 f.type κ κ a c t1.intU,u9]
   cases hac:(a==c) with
   |false=>simp
   |true=>
    simp only[P3,OR,JH,u7,yj];rw[wQ t2.intU (show(#[Value.int κ a,.int κ' b]:Array Value)[1]?=some (.int κ' b) from rfl),u9,wQ t2.intU (show(#[Value.int κ c,.int κ' d]:Array Value)[1]?=some (.int κ' d) from rfl),u9,
     run_equalIn_int w 9998 g.type κ' κ' b d t2.intU,u9]
    cases hbd:(b==d)<;>simp
theorem EK {P : Program} {R : Type} {E : Env} {op : BinOp} {xt : TypeId} {ox oy : Operand} {x y : AV} {k : AV → Option R} {r : R} (hk : tX E op xt x y k = some r) {bad : Nat → Prop} {v u : Value} {bs cs : Ln} (hE : jJ P E)
    (hx : c9 β ob w bad x v bs) (hy : c9 β ob w bad y u cs) :
    ∃ av z, k av = some r ∧ (do eqGuard op xt ox oy v u; binOp op xt v u : Sem Value).run P w = .ok z w ∧ (∀ bad', c9 β ob w bad' av z []) := by
  unfold tX at hk;split at hk
  · rename_i p q hp hq
    obtain ⟨rfl, -⟩ := p7 hp hx;obtain ⟨rfl, -⟩ := p7 hq hy;cases hc : (decide (p.1.1 = q.1.1) && decide (p.2.1 = q.2.1) && decide (al E.ty xt = some (.pair (.int p.1.1) (.int p.2.1))) && (al E.eq xt).isSome) with
    | false => rw [hc] at hk; cases hk
    | true =>
      rw [hc] at hk;simp only [eJ, ir] at hc;obtain ⟨⟨⟨c1, c2⟩, c3⟩, c4⟩ := hc;obtain ⟨e1, e2, e3, e4⟩ := hE.eq xt c4;rw [← c1, ← c2];simp only [pD] at hk;split at hk
      · refine ⟨_, _, hk, ?_, fun _ => p8 _⟩
        rw [u7, run_eqGuard_agg w _ _ _ _ _ _ e2, u9, run_eql_struct, BF (hE.ty _ _ c3) e1 e3 e4, u9]
      · refine ⟨_, _, hk, ?_, fun _ => p8 _⟩
        rw [u7, run_eqGuard_agg w _ _ _ _ _ _ e2, u9, run_neq_struct, BF (hE.ty _ _ c3) e1 e3 e4, u9]
      · cases hk
  · cases hk
theorem Ex {P : Program} {R : Type} {E : Env} {op : BinOp} {xt : TypeId} {ox oy : Operand} {x y : AV} {k : AV → Option R} {r : R} (hk : FU E ob op xt x y k = some r) {bad : Nat → Prop} {v u : Value} {bs cs : Ln}
    (hE : jJ P E)
    (hx : c9 β ob w bad x v bs) (hy : c9 β ob w bad y u cs) :
    ∃ av z, k av = some r ∧ (do eqGuard op xt ox oy v u; binOp op xt v u : Sem Value).run P w = .ok z w ∧ (∀ bad', c9 β ob w bad' av z []) := by
  unfold FU at hk;split at hk
  · rename_i κ a κ' b
    obtain ⟨rfl, -⟩ := cP hx;obtain ⟨rfl, -⟩ := cP hy;have num : ∀ {n : Int}, k (.d (.int κ) n) = some r → (do eqGuard op xt ox oy (.int κ a) (.int κ' b); binOp op xt (.int κ a) (.int κ' b) : Sem Value).run P w = .ok (.int κ n) w →
        ∃ av z, k av = some r ∧ (do eqGuard op xt ox oy (.int κ a) (.int κ' b); binOp op xt (.int κ a) (.int κ' b) : Sem Value).run P w = .ok z w ∧ (∀ bad', c9 β ob w bad' av z []) :=
      fun h1 h2 => ⟨_, _, h1, h2, fun _ => iy _ _⟩
    have boo : ∀ {n : Bool}, k (.d .bool n) = some r → (do eqGuard op xt ox oy (.int κ a) (.int κ' b); binOp op xt (.int κ a) (.int κ' b) : Sem Value).run P w = .ok (.bool n) w →
        ∃ av z, k av = some r ∧ (do eqGuard op xt ox oy (.int κ a) (.int κ' b); binOp op xt (.int κ a) (.int κ' b) : Sem Value).run P w = .ok z w ∧ (∀ bad', c9 β ob w bad' av z []) :=
      fun h1 h2 => ⟨_, _, h1, h2, fun _ => p8 _⟩
    cases op with
    | shl =>
      simp only at hk;by_cases hb : b < 0
      · simp [hb] at hk
      · simp only [hb, decide_false, uP] at hk
        exact num hk (by simp [eqGuard, binOp, Op.shift, hb, QD])
    | shr =>
      simp only at hk;by_cases hb : b < 0
      · simp [hb] at hk
      · simp only [hb, decide_false, uP] at hk
        exact num hk (by simp [eqGuard, binOp, Op.shift, hb, gT])
    | quo =>
      simp only at hk;split at hk
      · subst_vars
        split at hk
        · cases hk
        · rename_i hb; exact num hk (by simp [eqGuard, binOp, Op.intDiv, hb])
      · cases hk
    | rem =>
      simp only at hk;split at hk
      · subst_vars
        split at hk
        · cases hk
        · rename_i hb; exact num hk (by simp [eqGuard, binOp, Op.intDiv, hb])
      · cases hk
    | add => simp only at hk; split at hk; · subst_vars; exact num hk (by simp [eqGuard, binOp, Op.intArith])
             · cases hk
    | sub => simp only at hk; split at hk; · subst_vars; exact num hk (by simp [eqGuard, binOp, Op.intArith])
             · cases hk
    | mul => simp only at hk; split at hk; · subst_vars; exact num hk (by simp [eqGuard, binOp, Op.intArith])
             · cases hk
    | and => simp only at hk; split at hk; · subst_vars; exact num hk (by simp [eqGuard, binOp, Op.intBits, iu])
             · cases hk
    | or => simp only at hk; split at hk; · subst_vars; exact num hk (by simp [eqGuard, binOp, Op.intBits, RX])
            · cases hk
    | xor => simp only at hk; split at hk; · subst_vars; exact num hk (by simp [eqGuard, binOp, Op.intBits, dj])
             · cases hk
    | andNot => simp only at hk; split at hk; · subst_vars; exact num hk (by simp [eqGuard, binOp, Op.intBits, O2])
                · cases hk
    | eql => simp only [IY] at hk; split at hk; · subst_vars; exact boo hk (by simp [eqGuard, binOp, Op.intCmp])
             · cases hk
    | neq => simp only [IY] at hk; split at hk; · subst_vars; exact boo hk (by simp [eqGuard, binOp, Op.intCmp])
             · cases hk
    | lss => simp only [IY] at hk; split at hk; · subst_vars; exact boo hk (by simp [eqGuard, binOp, Op.intCmp])
             · cases hk
    | leq => simp only [IY] at hk; split at hk; · subst_vars; exact boo hk (by simp [eqGuard, binOp, Op.intCmp])
             · cases hk
    | gtr => simp only [IY] at hk; split at hk; · subst_vars; exact boo hk (by simp [eqGuard, binOp, Op.intCmp])
             · cases hk
    | geq => simp only [IY] at hk; split at hk; · subst_vars; exact boo hk (by simp [eqGuard, binOp, Op.intCmp])
             · cases hk
  · obtain ⟨rfl, _⟩ := iG hx
    obtain ⟨rfl, _⟩ := iG hy;split at hk
    · split at hk
      · rename_i hb
        exact ⟨_, _, hk, by rw [show (do eqGuard .eql xt ox oy (.bool _) (.bool _); binOp .eql xt (.bool _) (.bool _) : Sem Value) = (do pure (.bool (← Op.equalIn (9999 + 1) xt (.bool _) (.bool _)))) from rfl];rw [u7, BG (hE.ty _ _ hb).boolU, u9, Dt], fun _ => p8 _⟩
      · cases hk
    · split at hk
      · rename_i hb
        exact ⟨_, _, hk, by rw [show (do eqGuard .neq xt ox oy (.bool _) (.bool _); binOp .neq xt (.bool _) (.bool _) : Sem Value) = (do pure (.bool (!(← Op.equalIn (9999 + 1) xt (.bool _) (.bool _))))) from rfl];rw [u7, BG (hE.ty _ _ hb).boolU, u9, Dt], fun _ => p8 _⟩
      · cases hk
    · cases hk
  · exact EK hk hE hx hy
theorem Eo {bad : Nat → Prop} : ∀ {τ : Ty} {v : τ.den} {cs : List Value} {o : Nat} {σ : Ty} {y : σ.den}, enc w bad τ v cs → zc τ v o σ = some y →
    ∃ ds, enc w bad σ y ds ∧ ∀ (j : Nat) u, ds[j]? = some u → cs[o + j]? = some u := by
  intro τ
  induction τ with
  | pair a b iha ihb =>
    intro v cs o σ y he hg;unfold zc at hg;split at hg
    · rename_i h
      obtain ⟨rfl, rfl⟩ := h;simp only [s8] at hg;subst hg;exact ⟨cs, he, fun j u hj => by simpa using hj⟩
    · obtain ⟨c1, c2, rfl, h1, h2⟩ := he
      have hl := dK h1;split at hg
      · rename_i hlt
        obtain ⟨ds, hd, hj⟩ := iha h1 hg;exact ⟨ds, hd, fun j u hu => by
          have := hj j u hu;have hlt' : o + j < c1.length := by
            rcases iQ (o + j) c1.length with h | h
            · exact h
            · rw [qA h] at this; cases this
          rw [su hlt']; exact this⟩
      · rename_i hge
        obtain ⟨ds, hd, hj⟩ := ihb h2 hg;exact ⟨ds, hd, fun j u hu => by have := hj j u hu;rw [vw (by omega)];rw [show o + j - c1.length = o - a.size + j from by omega]; exact this⟩
  | int κ =>
    intro v cs o σ y he hg;simp only [zc] at hg;split at hg
    · rename_i h; obtain ⟨rfl, rfl⟩ := h; simp only [s8] at hg; subst hg; exact ⟨cs, he, fun j u hj => by simpa using hj⟩
    · cases hg
  | bool =>
    intro v cs o σ y he hg;simp only [zc] at hg;split at hg
    · rename_i h; obtain ⟨rfl, rfl⟩ := h; simp only [s8] at hg; subst hg; exact ⟨cs, he, fun j u hj => by simpa using hj⟩
    · cases hg
  | list e ih =>
    intro v cs o σ y he hg;simp only [zc] at hg;split at hg
    · rename_i h; obtain ⟨rfl, rfl⟩ := h; simp only [s8] at hg; subst hg; exact ⟨cs, he, fun j u hj => by simpa using hj⟩
    · cases hg
theorem At.part{b o off:Nat}{cs ds:List Value}(h:At w b o cs)(hd:∀(j:Nat) u,ds[j]?=some u->cs[off+j]?=some u):At w b (o+off) ds:=
 fun j u hj=>by have:=h _ _ (hd j u hj);rw[NG];exact this
theorem vv{P:Program}{t:TypeId}{τ:Ty}(hT:gE P t τ){b o:Nat}{cs:List Value}(hat:At w b o cs)(hl:cs.length=τ.size):
  ∃u,(loadVar t ⟨b,o,none⟩).run P w = .ok u w/\kj τ u cs:=by
 obtain⟨i,z,hi,hs,_,_,_,_⟩:=hT.info;have hag:=hT.agg w;have hcells:(loadCells ⟨b,o,none⟩ τ.size).run P w = .ok cs.toArray w:=by rw[<-hl];exact run_loadCells_list w _ cs fun j v hj=>by rw[Mr];exact hat j v hj
 cases τ with
 |pair a b'=>refine⟨.agg cs.toArray,?_,rfl⟩;simp only[loadVar,u7,hag,u9,sq,sizeOf,typeInfo,P1,hi,Dt,hs,hcells]
 |_=>
  simp only[Ty.size]at hl;obtain⟨v,rfl⟩:∃v,cs=[v]:=by
   match cs,hl with
   |[v],_=>exact⟨v,rfl⟩
  have h0:=hat 0 v rfl;simp only[Ds]at h0;refine⟨v,?_,rfl⟩;simp only[loadVar,u7,hag,u9,OR,JH,run_load,h0]
theorem Vs.pointwise{r:AV->Value->Ln->Prop}{as:List AV}{vs:List Value}(h:Vs r as vs []):
  as.length=vs.length/\∀(i:Nat) a,as[i]?=some a->∃v,vs[i]?=some v/\r a v []:=by
 generalize hb:([]:Ln)=bs at h
 induction h with
 |nil=>exact⟨rfl,fun i a h=>by simp at h⟩
 |cons h1 _ ih=>
  have hb':=hb.symm;rw[N6]at hb';obtain⟨rfl,rfl⟩:=hb';obtain⟨hl,hp⟩:=ih rfl;refine⟨by simp[hl],fun i a hi=>?_⟩;cases i with
  |zero=>simp at hi;subst hi;exact⟨_,rfl,h1⟩
  |succ i=>simpa using hp i a (by simpa using hi)
theorem Vs.of{r:AV->Value->Ln->Prop}:∀{as:List AV} {vs:List Value},as.length=vs.length->(∀(i:Nat) a v,as[i]?=some a->vs[i]?=some v->r a v [])->Vs r as vs []
 |[],[],_,_=>.nil
 |a::as,v::vs,hl,h=>by have:=Vs.of (as:=as) (vs:=vs) (by simpa using hl) fun i a v h1 h2=>h (i+1) a v (by simpa using h1) (by simpa using h2);simpa using Vs.cons (h 0 a v rfl rfl) this
end
end
section
def Reads(w:World)(bad:Nat->Prop)(e:Ty)(l:List e.den)(v:Value):Prop:=
 ∃A c,v = .slice A l.length c/\l.length<=c/\(A=none->c=0) /\
  ∀a,A=some a->∀(i:Nat) (x:e.den),l[i]?=some x->a.spot=none/\∃ds,enc w bad e x ds/\At w a.block (a.off+i*e.size) ds
theorem Reads.mono{w:World}{bad bad':Nat->Prop}{e:Ty}{l:List e.den}{v:Value}(hb:∀b,b<w.heap.size->bad' b->bad b)(h:Reads w bad e l v):Reads w bad' e l v:=by obtain⟨A,c,rfl,hl,hz,hr⟩:=h;refine⟨A,c,rfl,hl,hz,fun a ha i x hx=>?_⟩;obtain⟨h1,ds,h2,h3⟩:=hr a ha i x hx;exact⟨h1,ds,fe (bad0:=fun _=>False) (bM.refl _ w) (fun _ _ x=>x.elim) hb h2,h3⟩
theorem tF{w:World}{bad:Nat->Prop}{e:Ty}{l:List e.den}{v:Value}(h:enc w bad (.list e) l [v]):Reads w bad e l v:=by obtain⟨A,c,hv,hl,hz,hr⟩:=h;simp only[Im,Ko]at hv;subst hv;exact⟨A,c,rfl,hl,hz,fun a ha i x hx=>let ⟨h1,_,ds,h3,h4⟩:=hr a ha i x hx;⟨h1,ds,h3,h4⟩⟩
theorem Reads.enc{w:World}{bad:Nat->Prop}{e:Ty}{l:List e.den}{v:Value}(h:Reads w bad e l v)
  (hn:0<l.length->∀a n c,v = .slice (some a) n c->¬bad a.block):enc w bad (.list e) l [v]:=by
 obtain⟨A,c,rfl,hl,hz,hr⟩:=h;exact⟨A,c,rfl,hl,hz,fun a ha i x hx=>let ⟨h1,ds,h3,h4⟩:=hr a ha i x hx;⟨h1,hn (by rcases iQ i l.length with h|h;omega;rw[qA h]at hx;cases hx) a _ _ (by rw[ha]),ds,h3,h4⟩⟩
section
variable {b0:Nat->Prop} {β:bd} {ob:cW} {w:World}
theorem DX{bad:Nat->Prop}{τ:Ty}{l:List τ.den}{b o c0:Nat}(hr:Row w bad τ l b o c0){off len A c:Nat}(hol:off+len<=l.length)
  (hlc:len<=c) (hc:off+c<=c0) (hA:c≠0->A=o+off*τ.size):Reads w bad τ (cN l off len) (.slice (some ⟨b,A,none⟩) len c):=by
 have hlen:(cN l off len).length=len:=by simp[cN];omega
 obtain⟨cells,elem,hh,_,_,hrd⟩:=hr;refine⟨_,c,by rw[hlen],by omega,by simp,fun a ha i x hx=>?_⟩;simp only[s8]at ha;subst ha;have hi:i<len:=by rcases iQ i (cN l off len).length with h|h;omega;rw[qA h]at hx;cases hx
 have hx':l[off+i]?=some x:=by simp only[cN,D5,Ku]at hx;rw[aa hi]at hx;exact hx
 obtain⟨ds,he,hd⟩:=hrd _ _ hx';refine⟨rfl,ds,he,fun j v hj=>?_⟩;rw[cell_of hh];have hA':=hA (by omega);have:=hd j v hj;simp only;rw[hA',show o+off*τ.size+i*τ.size+j=o+(off+i)*τ.size+j from by rw[Ad];omega];exact this
theorem mL{α:Type}(l:List α):cN l 0 l.length=l:=by simp[cN]
theorem qC{av:Nat->Prop}(hO:rM b0 β ob w av){key:Nat}{τ:Ty}{l:List τ.den}(hk:al ob key=some (.row τ l)){off len:Nat}{v:Value}(hol:off+len<=l.length)
  (hs:sJ β key τ.size off len v):Reads w av τ (cN l off len) v/\(0<len->∀a n c,v = .slice (some a) n c->dd β ob a.block):=by
 unfold sJ at hs;rcases hO.row key τ l hk with⟨hb,rfl⟩|⟨b,o,c,hb,hr⟩;rw[hb]at hs;obtain⟨⟨A,rfl⟩,rfl⟩:=hs;exact⟨⟨A,0,by simp[cN],by simp[cN],by simp,by simp[cN]⟩,by simp⟩;rw[hb]at hs;obtain⟨A,c',rfl,h1,h2,h3⟩:=hs;refine⟨DX hr hol h1 h2 h3,fun _ a n c he=>?_⟩;simp only[Dl,s8]at he;rw[<-he.1];exact⟨key,_,_,_,hk,hb⟩
theorem D8{bad:Nat->Prop}{τ:Ty}{l:List τ.den}{v:Value}{bs:Ln}(h:qM w bad τ l v bs):
  Reads w bad τ l v/\(0<l.length->∀a n c,v = .slice (some a) n c->a.block∈bs):=by
 rcases h with⟨⟨A,rfl⟩,rfl,rfl⟩|⟨b,o,c,rfl,rfl,hr⟩;exact⟨⟨A,0,rfl,dD _,by simp,by simp⟩,by simp⟩
 .refine⟨?_,fun _ a n c he=>?_⟩
  .have hl:l.length<=c:=by obtain⟨_,_,_,h,_⟩:=hr;exact h.1
   have:=DX (off:=0) (len:=l.length) (A:=o) (c:=c) hr (by omega) hl (by omega) (by simp)
   rwa [mL]at this
  simp only[Dl,s8]at he;rw[<-he.1];simp
def ju:AV->Bool
 |.ow _|.own _ _ _=>true
 |_=>false
theorem pq{R:Type}{e:Ty}{av:AV}{k:List e.den->Option R}{r:R}(hk:pr ob e av k=some r){bad:Nat->Prop}(hO:rM b0 β ob w bad)
  {v:Value} {bs:Ln} (h:c9 β ob w bad av v bs) :
  ∃l,k l=some r/\Reads w bad e l v/\(∀a n c,v = .slice (some a) n c->0<l.length->(ju av=true/\dd β ob a.block)\/a.block∈bs\/¬bad a.block):=by
 unfold pr at hk;split at hk;obtain⟨rfl,rfl⟩:=h;exact⟨[],hk,⟨none,0,rfl,dD _,by simp,by simp⟩,by simp⟩;split at hk;rename_i σ l hσ;subst hσ;obtain⟨rfl,cs,hv,he⟩:=h;simp only[kj]at hv;subst hv;refine⟨_,hk,tF he,fun a n c hv hl=>?_⟩;obtain⟨A,c',hv',_,_,hr⟩:=he;simp only[Im,Ko]at hv';subst hv';simp only[Dl]at hv;obtain⟨x,hx⟩:∃x,(show List σ.den from l)[0]?=some x:=⟨_,c6 hl⟩;exact .inr (.inr (hr a hv.1 0 x hx).2.1);cases hk;split at hk;rename_i σ l hσ;subst hσ;obtain⟨rfl,A,rfl,he⟩:=h;refine⟨_,hk,tF he,fun a n c hv hl=>?_⟩;obtain⟨A',c',hv',_,_,hr⟩:=he;simp only[Im,Ko,Dl]at hv';simp only[Dl]at hv;obtain⟨x,hx⟩:∃x,l[0]?=some x:=⟨_,c6 hl⟩;exact .inr (.inr (hr a (hv'.1.symm.trans hv.1) 0 x hx).2.1);cases hk;split at hk;rename_i σ l hσ;subst hσ;obtain⟨h1,h2⟩:=D8 h;exact⟨_,hk,h1,fun a n c hv hl=>.inr (.inl (h2 hl a n c hv))⟩;cases hk
 .split at hk
  .split at hk;.rename_i key _ σ l hkey hσ;subst hσ;obtain⟨rfl,τ,l',hl',hs⟩:=h;rw[hkey]at hl';cases hl';obtain⟨h1,h2⟩:=qC (off:=0) hO hkey (by omega) hs;rw[mL]at h1;exact⟨_,hk,h1,fun a n c hv hl=>.inl ⟨rfl,h2 (by first|exact hl|(simp only[cN,lE,F7]at hl;omega)) a n c hv⟩⟩
   cases hk
  cases hk
 .split at hk
  .split at hk;.rename_i key off len _ σ l hkey hσ;subst hσ;obtain⟨rfl,τ,l',hl',hol,hs⟩:=h;rw[hkey]at hl';cases hl';obtain⟨h1,h2⟩:=qC hO hkey hol hs;exact⟨_,hk,h1,fun a n c hv hl=>.inl ⟨rfl,h2 (by first|exact hl|(simp only[cN,lE,F7]at hl;omega)) a n c hv⟩⟩
   cases hk
  cases hk
 cases hk
theorem Vs.split{r:AV->Value->Ln->Prop}{a:AV}{as:List AV}{vs:List Value}{bs:Ln}(h:Vs r (a::as) vs bs):
  ∃v vr b br,vs=v::vr/\bs=b++br/\r a v b/\Vs r as vr br:=by
 cases h with
 |cons h1 h2=>exact⟨_,_,_,_,rfl,rfl,h1,h2⟩
theorem A9{R:Type}{ow:Bool}{bad bad':Nat->Prop}(hO:rM b0 β ob w bad)(hb:∀b,b<w.heap.size->bad' b->bad b):
  ∀{τ:Ty} {cs:List AV} {k:τ.den->List AV->Option R} {r:R} {vs:List Value} {bs:Ln},
  da ob ow τ cs k=some r->Vs (jf β ob w bad) cs vs bs->(∀b,b∈bs->¬bad' b)->(∀c,c∈cs->ju c=true->ow=true->∀b,dd β ob b->¬bad' b) ->
  ∃x rest v1 v2 b2,k x rest=some r/\vs=v1++v2/\enc w bad' τ x v1/\Vs (jf β ob w bad) rest v2 b2/\(∀b,b∈b2->b∈bs)/\(∀c,c∈rest->c∈cs):=by
 intro τ
 induction τ with
 |pair a b iha ihb=>intro cs k r vs bs hk hv hbs hown;simp only[da]at hk;obtain⟨x,rest,v1,v2,b2,h1,rfl,h3,h4,h5,h6⟩:=iha hk hv hbs hown;obtain⟨y,rest',v1',v2',b2',g1,rfl,g3,g4,g5,g6⟩:=ihb h1 h4 (fun b hb'=>hbs b (h5 b hb')) (fun c hc=>hown c (h6 c hc));exact⟨(x,y),rest',v1++v1',v2',b2',g1,by rw[Dw],⟨_,_,rfl,h3,g3⟩,g4,fun b hb'=>h5 b (g5 b hb'),fun c hc=>h6 c (g6 c hc)⟩
 |list e ih=>
  intro cs k r vs bs hk hv hbs hown;cases cs with
  |nil=>simp[da]at hk
  |cons c cs=>
   obtain⟨v,vr,b,br,rfl,rfl,hc,hr⟩:=hv.split;simp only[da]at hk;have key:pr ob e c (fun l=>k l cs)=some r/\(ju c=true->ow=true):=by
    split at hk;cases hk;cases hk
    .rename_i h1 h2;refine⟨hk,fun ho=>?_⟩;cases ow with
     |true=>rfl
     |false=>cases c<;>simp_all [ju]
   obtain⟨l,h1,h2,h3⟩:=pq (b0:=b0) key.1 hO (bs:=b) (v:=v) (by cases c<;>first|exact hc|(simp[pr]at key))
   refine⟨l,cs,[v],vr,br,h1,rfl,?_,hr,fun x hx=>by simp[hx],fun x hx=>by simp[hx]⟩;refine(h2.mono hb).enc fun hp a n c' hv'=>?_;rcases h3 a n c' hv' hp with⟨g1,g2⟩|g|g;exact hown c (by simp) g1 (key.2 g1) _ g2;exact hbs _ (by simp[g]);intro hx;refine g (hb _ ?_ hx);obtain⟨A,c'',he,_,_,hrd⟩:=h2;rw[hv']at he;simp only[Dl]at he;obtain⟨y,hy⟩:∃y,l[0]?=some y:=⟨_,c6 hp⟩;obtain⟨_,ds,hd1,hd2⟩:=hrd a he.1.symm 0 y hy;exact hd2.lt (by rw[dK hd1];exact Ty.size_pos e)
 |int κ=>
  intro cs k r vs bs hk hv hbs hown;cases cs with
  |nil=>simp[da]at hk
  |cons c cs=>obtain⟨v,vr,b,br,rfl,rfl,hc,hr⟩:=hv.split;simp only[da]at hk;split at hk;split at hk;rename_i σ x hσ;subst hσ;obtain⟨hv',hb'⟩:=cP (β:=β) (ob:=ob) (w:=w) hc;subst hv';exact⟨x,cs,[_],vr,br,hk,rfl,rfl,hr,fun x hx=>by simp[hx],fun x hx=>by simp[hx]⟩;cases hk;cases hk
 |bool=>
  intro cs k r vs bs hk hv hbs hown;cases cs with
  |nil=>simp[da]at hk
  |cons c cs=>obtain⟨v,vr,b,br,rfl,rfl,hc,hr⟩:=hv.split;simp only[da]at hk;split at hk;split at hk;rename_i σ x hσ;subst hσ;obtain⟨hv',hb'⟩:=iG (β:=β) (ob:=ob) (w:=w) hc;subst hv';exact⟨x,cs,[_],vr,br,hk,rfl,rfl,hr,fun x hx=>by simp[hx],fun x hx=>by simp[hx]⟩;cases hk;cases hk
end
end
section
section
variable {b0:Nat->Prop} {β:bd} {ob:cW} {w:World}
theorem pU{bad:Nat->Prop}{a:AV}{v:Value}{bs:Ln}(h:eO β ob w bad a v bs):jf β ob w bad a v bs:=by cases a<;>first|exact h|exact h.elim
theorem zL{bad:Nat->Prop}{a:AV}{v:Value}{bs:Ln}(h:jf β ob w bad a v bs):c9 β ob w bad a v bs:=by cases a<;>first|exact h|exact h.elim
theorem Vs.app{r:AV->Value->Ln->Prop}{as as':List AV}{vs vs':List Value}{bs bs':Ln}(h:Vs r as vs bs)(h':Vs r as' vs' bs'):Vs r (as++as') (vs++vs') (bs++bs'):=by
 induction h with
 |nil=>exact h'
 |cons h1 _ ih=>rw[Kr,Kr,Dw];exact .cons h1 ih
theorem jY{bad:Nat->Prop}:∀{τ:Ty} {x:τ.den} {cs:List Value},enc w bad τ x cs->Vs (eO β ob w bad) (nM τ x) cs []
 |.pair a b,x,cs,h=>by obtain⟨c1,c2,rfl,h1,h2⟩:=h;simp only[nM];exact(jY h1).app (jY h2)
 |.int κ,x,cs,h=>by have hc:cs=[.int κ x]:=h;subst hc;exact .cons (b:=[]) ⟨rfl,_,rfl,rfl⟩ .nil
 |.bool,x,cs,h=>by have hc:cs=[.bool x]:=h;subst hc;exact .cons (b:=[]) ⟨rfl,_,rfl,rfl⟩ .nil
 |.list e,x,cs,h=>by have h':=h;obtain⟨A,c,rfl,_⟩:=h;exact .cons (b:=[]) ⟨rfl,_,rfl,h'⟩ .nil
theorem ln{bad:Nat->Prop}{a:AV}{v:Value}{bs:Ln}(h:c9 β ob w bad a v bs)(hne:cellsOf a≠[]):Vs (jf β ob w bad) (cellsOf a) v.cells.toList bs:=by
 have one:∀{a:AV},jf β ob w bad a v bs->v.cells = #[v]->Vs (jf β ob w bad) [a] v.cells.toList bs:=fun h hc=>by rw[hc];have:=Vs.cons h Vs.nil;rwa [s7]at this
 cases a with
 |agg cs=>obtain⟨vs,rfl,hv⟩:=h;simpa[Value.cells,cellsOf]using hv.imp fun a v b _ h=>pU h
 |d τ x=>
  obtain⟨rfl,cs,hv,he⟩:=h;have hs:=(jY (β:=β) (ob:=ob) he).imp (r':=jf β ob w bad) fun a v b _ h=>pU h;simp only[cellsOf];cases τ with
  |pair a b=>simp only[kj]at hv;subst hv;simpa[Value.cells]using hs
  |int κ=>simp only[kj,enc]at hv he;subst hv;simp at he;subst he;simpa[Value.cells]using hs
  |bool=>simp only[kj,enc]at hv he;subst hv;simp at he;subst he;simpa[Value.cells]using hs
  |list e=>simp only[kj]at hv;subst hv;obtain⟨A,c,hc,_⟩:=he;simp only[Im,Ko]at hc;subst hc;simpa[Value.cells]using hs
 |any=>simp[cellsOf]at hne
 |arr n τ l=>simp[cellsOf]at hne
 |tup vs=>simp[cellsOf]at hne
 |non=>obtain⟨rfl,rfl⟩:=h;exact one (a:=.non) ⟨rfl,rfl⟩ rfl
 |nil=>obtain⟨rfl,rfl⟩:=h;exact one (a:=.nil) ⟨rfl,rfl⟩ rfl
 |full τ l=>have h':=h;obtain⟨rfl,A,rfl,_⟩:=h;exact one (a:=.full τ l) h' rfl
 |new τ l=>have h':=h;rcases h with⟨⟨A,rfl⟩,_⟩|⟨b,o,c,_,rfl,_⟩;exact one (a:=.new τ l) h' rfl;exact one (a:=.new τ l) h' rfl
 |ow key=>have h':=h;obtain⟨rfl,τ,l,hk,hs⟩:=h;refine one (a:=.ow key) h' ?_;unfold sJ at hs;split at hs;obtain⟨⟨A,rfl⟩,_⟩:=hs;rfl;obtain⟨A,c,rfl,_⟩:=hs;rfl
 |own key off len=>have h':=h;obtain⟨rfl,τ,l,hk,_,hs⟩:=h;refine one (a:=.own key off len) h' ?_;unfold sJ at hs;split at hs;obtain⟨⟨A,rfl⟩,_⟩:=hs;rfl;obtain⟨A,c,rfl,_⟩:=hs;rfl
 |narr n τ l=>have h':=h;obtain⟨_,b,rfl,rfl,_⟩:=h;exact one (a:=.narr n τ l) h' rfl
 |ptr key off=>have h':=h;obtain⟨rfl,b,c,cs,_,_,rfl⟩:=h;exact one (a:=.ptr key off) h' rfl
 |ap key n=>have h':=h;obtain⟨rfl,τ,l,b,c,_,_,_,rfl⟩:=h;exact one (a:=.ap key n) h' rfl
 |rop τ x=>have h':=h;obtain⟨rfl,ad,cs,rfl,_⟩:=h;exact one (a:=.rop τ x) h' rfl
 |rptr key j off=>have h':=h;obtain⟨rfl,τ,l,b,o,c,_,_,rfl⟩:=h;exact one (a:=.rptr key j off) h' rfl
 |nbox cs=>have h':=h;obtain⟨b,cells,elem,bs',rfl,_⟩:=h;exact one (a:=.nbox cs) h' rfl
 |fn f caps=>have h':=h;obtain⟨rfl,vs,rfl,_⟩:=h;exact one (a:=.fn f caps) h' rfl
theorem xz{R:Type}{ow:Bool}{bad bad':Nat->Prop}(hO:rM b0 β ob w bad)(hb:∀b,b<w.heap.size->bad' b->bad b){τ:Ty}{a:AV}{k:τ.den->Option R}{r:R}{v:Value}{bs:Ln}
  (hk:Kg ob ow τ a k=some r) (h:c9 β ob w bad a v bs) (hbs:∀b,b∈bs->¬bad' b) (hown:∀c,c∈cellsOf a->ju c=true->ow=true->∀b,dd β ob b->¬bad' b) :
  ∃x,k x=some r/\enc w bad' τ x v.cells.toList/\kj τ v v.cells.toList:=by
 have scalar:∀{τ:Ty} {k:τ.den->Option R},(∀ta tb,τ ≠ .pair ta tb)->H5 ob ow τ a k=some r ->
   ∃x,k x=some r/\enc w bad' τ x v.cells.toList/\kj τ v v.cells.toList:=by
  intro τ k hp hk;have h1:jf β ob w bad a v bs/\(ju a=true->a∈cellsOf a)/\da ob ow τ [a] (fun x r=>match r with|[]=>k x|_=>none)=some r:=by
   cases a with
   |agg cs=>simp[H5]at hk
   |tup vs=>
    cases τ with
    |pair ta tb=>exact absurd rfl (hp _ _)
    |_=>simp[H5,da,pr]at hk
   |_=>exact⟨h,by simp[ju,cellsOf],hk⟩
  have hv:=Vs.cons h1.1 Vs.nil;rw[s7]at hv;obtain⟨x,rest,v1,v2,b2,g1,g2,g3,g4,_,_⟩:=A9 hO hb h1.2.2 hv hbs (fun c hc ho=>by
   have hc':c=a:=by simpa using hc
   subst hc';exact hown c (h1.2.1 ho) ho)
  split at g1;cases g4;rw[s7]at g2;subst g2;have hc:v.cells = #[v]/\kj τ v [v]:=by
   cases τ with
   |pair ta tb=>exact absurd rfl (hp _ _)
   |int κ=>simp only[enc]at g3;simp at g3;subst g3;exact⟨rfl,rfl⟩
   |bool=>simp only[enc]at g3;simp at g3;subst g3;exact⟨rfl,rfl⟩
   |list e=>obtain⟨A,c,hc,_⟩:=g3;simp at hc;subst hc;exact⟨rfl,rfl⟩
  rw[hc.1];exact⟨x,g1,g3,hc.2⟩;cases g1
 cases τ with
 |pair ta tb=>
  replace hk:da ob ow (.pair ta tb) (cellsOf a) (fun x r=>match r with|[]=>k x|_=>none)=some r:=hk;have hne:cellsOf a≠[]:=by
   intro hn;rw[hn]at hk;simp only[da]at hk;have:∀(τ:Ty) (k:τ.den->List AV->Option R),da ob ow τ [] k=none:=by
    intro τ
    induction τ with
    |pair a b iha _=>intro k;simp only[da];exact iha _
    |_=>intro k;simp[da]
   rw[this]at hk;cases hk
  obtain⟨x,rest,v1,v2,b2,h1,h2,h3,h4,_,_⟩:=A9 hO hb hk (ln h hne) hbs hown;split at h1
  .cases h4;rw[s7]at h2;refine⟨x,h1,h2▸h3,?_⟩;simp only[kj];have hl:=dK h3;rw[<-h2]at hl;have:=ta.size_pos;have:=tb.size_pos;cases v with
   |agg c=>simp[Value.cells]
   |_=>simp[Value.cells,Ty.size]at hl;omega
  cases h1
 |int κ=>exact scalar (fun _ _ h=>by cases h) hk
 |bool=>exact scalar (fun _ _ h=>by cases h) hk
 |list e=>exact scalar (fun _ _ h=>by cases h) hk
end
end
section
theorem tC{α:Type}{l:List α}{i:Int}{x:α}(h:aD l i=some x):0<=i/\i.toNat<l.length/\l[i.toNat]?=some x:=by unfold aD at h;split at h;rename_i h0;refine⟨h0,?_,h⟩;rcases iQ i.toNat l.length with hl|hl;exact hl;rw[qA hl]at h;cases h;cases h
theorem fT{E:Env}{t:TypeId}{e:Ty}(h:jw E t=some e):al E.ty t=some (.list e):=by unfold jw at h;split at h;cases h;assumption;cases h
theorem bO{R:Type}{c:Bool}{x:Option R}{r:R}(h:(bif c then x else none)=some r):c=true/\x=some r:=by
 cases c with
 |true=>exact⟨rfl,h⟩
 |false=>cases h
theorem bind_some{α R:Type}{x:Option α}{k:α->Option R}{r:R}(h:x.bind k=some r):∃a,x=some a/\k a=some r:=by
 cases x with
 |none=>cases h
 |some a=>exact⟨a,rfl,h⟩
theorem add_plain{a:Addr}(h:a.spot=none)(n:Nat):a.add n=⟨a.block,a.off+n,none⟩:=by
 cases a with
 |mk b o s=>simp only at h;subst h;exact Mr b o n
theorem dY{P:Program}{t:TypeId}{τ:Ty}(h:gE P t τ)(w:World):(sizeOf t).run P w = .ok τ.size w:=by obtain⟨i,z,hi,hs,_⟩:=h.info;simp[sizeOf,typeInfo,hi,hs]
theorem nV.get{P:Program}{fs:List Field}{off:Nat}{τ:Ty}(h:nV P fs off τ):∀{i:Nat} {f:Field},fs[i]?=some f->∃σ,gE P f.type σ:=by
 induction h with
 |one _ h2=>intro i f hi;cases i<;>simp at hi;subst hi;exact⟨_,h2⟩
 |more _ h2 _ ih=>
  intro i f hi;cases i with
  |zero=>simp at hi;subst hi;exact⟨_,h2⟩
  |succ i=>exact ih (by simpa using hi)
section
variable {b0:Nat->Prop} {β:bd} {ob:cW} {w:World}
theorem run_indexAt_slice{P:Program}{t te:TypeId}{e:Ty}(hu:P.underlying t=some (.slice te))(he:gE P te e){a:Addr}{n c:Nat}{κ:IntKind}{i:Int}(h0:0<=i)(h1:i<n):
  (Instr.indexAt t (.slice (some a) n c) (.int κ i)).run P w = .ok (.pointer (some (a.add (i.toNat*e.size)))) w:=by
 simp[Instr.indexAt,asIntOf,uX hu,dY he,h0,h1]
theorem run_indexAt_array{P:Program}{t te:TypeId}{e:Ty}{n:Nat}(hu:P.underlying t=some (.array n te))(he:gE P te e){a:Addr}{κ:IntKind}{i:Int}(h0:0<=i)(h1:i<n):
  (Instr.indexAt t (.pointer (some a)) (.int κ i)).run P w = .ok (.pointer (some (a.add (i.toNat*e.size)))) w:=by
 simp[Instr.indexAt,asIntOf,Instr.sureAddr,uX hu,dY he,h0,h1]
theorem KY{P:Program}{R:Type}{E:Env}(hE:jJ P E){bad:Nat->Prop}(hO:rM b0 β ob w bad){t:TypeId}{x:AV}{κ:IntKind}{i:Int}{k:AV->Option R}{r:R}{v:Value}{bs:Ln}
  (hk:KZ E ob t x i k=some r) (h:c9 β ob w bad x v bs) :
  ∃av u,k av=some r/\(Instr.indexAt t v (.int κ i)).run P w = .ok u w/\c9 β ob w bad av u []:=by
 have ro:∀{e:Ty} {l:List e.den} {A:Option Addr} {n c:Nat},enc w bad (.list e) l [.slice A n c]->n=l.length ->
   (bif jw E t==some e then(aD l i).bind fun v=>k (.rop e v) else none)=some r ->
   ∃av u,k av=some r/\(Instr.indexAt t (.slice A n c) (.int κ i)).run P w = .ok u w/\c9 β ob w bad av u []:=by
  intro e l A n c he hn hk;obtain⟨hc,hk⟩:=bO hk;obtain⟨x,hx,hk⟩:=bind_some hk;obtain⟨h0,h1,h2⟩:=tC hx;obtain⟨te,hu,hte⟩:=(hE.ty _ _ (fT (by simpa using hc))).listU;obtain⟨A',c',hv,hl,hz,hr⟩:=he;simp only[Im,Ko,Dl]at hv;obtain⟨rfl,_,rfl⟩:=hv;cases A with
  |none=>have:=hz rfl;omega
  |some a=>obtain⟨hsp,hnb,ds,hd,hat⟩:=hr a rfl i.toNat x h2;refine⟨_,_,hk,run_indexAt_slice hu hte h0 (by omega),rfl,_,ds,rfl,?_⟩;rw[add_plain hsp];exact⟨rfl,hnb,hd,hat⟩
 unfold KZ at hk;split at hk;split at hk;rename_i key n _ _ τ l m e hkey har;obtain⟨hc,hk1⟩:=bO hk;clear hk;simp only[eJ,ir]at hc;obtain⟨hm,rfl⟩:=hc;have hm':=xN hm;clear hm;subst hm';obtain⟨x,hx,hk⟩:=bind_some hk1;obtain⟨h0,h1,h2⟩:=tC hx;obtain⟨te,inf,hu,hte,_⟩:=hE.ar _ _ _ har;obtain⟨rfl,τ',l',b,c,hl',hn,hb,rfl⟩:=h;rw[hkey]at hl';cases hl';refine⟨_,_,hk,run_indexAt_array hu hte h0 (by omega),rfl,_,_,b,0,c,hkey,hb,?_⟩;rw[Mr];simp;cases hk;rename_i e l;obtain⟨rfl,cs,hv,he⟩:=h;simp only[kj]at hv;subst hv;have he':=he;obtain⟨A,c,hv,_⟩:=he;simp only[Im,Ko]at hv;subst hv;exact ro he' rfl hk;rename_i e l;obtain⟨rfl,A,rfl,he⟩:=h;exact ro he rfl hk;split at hk;rename_i key _ e l hkey;obtain⟨hc,hk⟩:=bO hk;obtain⟨x,hx,hk⟩:=bind_some hk;obtain⟨h0,h1,h2⟩:=tC hx;obtain⟨te,hu,hte⟩:=(hE.ty _ _ (fT (by simpa using hc))).listU;obtain⟨rfl,τ',l',hl',hs⟩:=h;rw[hkey]at hl';cases hl';unfold sJ at hs;split at hs;obtain⟨_,hz⟩:=hs;omega;rename_i b o c0 hb;obtain⟨A,c,rfl,g1,g2,g3⟩:=hs;refine⟨_,_,hk,run_indexAt_slice hu hte h0 (by omega),rfl,_,_,b,o,c0,hkey,hb,?_⟩;rw[Mr,g3 (by omega)];simp;cases hk;split at hk;rename_i key off len _ e l hkey;obtain⟨hc,hk⟩:=bO hk;obtain⟨x,hx,hk⟩:=bind_some hk;obtain⟨h0,h1,h2⟩:=tC hx;obtain⟨te,hu,hte⟩:=(hE.ty _ _ (fT (by simpa using hc))).listU;obtain⟨rfl,τ',l',hl',hol,hs⟩:=h;rw[hkey]at hl';cases hl';have hlen:(cN l off len).length=len:=by simp[cN];omega
 unfold sJ at hs;split at hs;obtain⟨_,hz⟩:=hs;omega;rename_i b o c0 hb;obtain⟨A,c,rfl,g1,g2,g3⟩:=hs;refine⟨_,_,hk,run_indexAt_slice hu hte h0 (by omega),rfl,_,_,b,o,c0,hkey,hb,?_⟩;rw[Mr,g3 (by omega)];simp[Ad,NG];cases hk;cases hk
theorem wc{P:Program}{R:Type}{E:Env}(hE:jJ P E){t:TypeId}{f:Nat}{k:Nat->TypeId->Option R}{r:R}(hk:sy E t f k=some r):
  ∃fields fld σ,P.underlying t=some (.struct fields)/\fields[f]?=some fld/\gE P fld.type σ/\k fld.offset fld.type=some r:=by
 unfold sy at hk;split at hk
 .rename_i n l hl;obtain⟨fields,τ,hu,rfl,_,_,_,hf⟩:=hE.fs _ _ _ hl;split at hk
  .rename_i o ft hget;rw[Kv]at hget;cases hfd:fields.toList[f]? with
   |none=>rw[hfd]at hget;cases hget
   |some fld=>rw[hfd]at hget;simp only[OS,s8,N3]at hget;obtain⟨rfl,rfl⟩:=hget;obtain⟨σ,hσ⟩:=hf.get hfd;exact⟨fields,fld,σ,hu,by simpa using hfd,hσ,hk⟩
  cases hk
 cases hk
theorem rZ{P:Program}{t:TypeId}{fields:Array Field}{f:Nat}{fld:Field}{σ:Ty}(hu:P.underlying t=some (.struct fields))(hf:fields[f]?=some fld)(hσ:gE P fld.type σ){a:Addr}:
  (Instr.fieldAt t (.pointer (some a)) f).run P w = .ok (.pointer (some (a.add fld.offset))) w:=by
 have:=σ.size_pos;simp[Instr.fieldAt,uX hu,hf,Instr.sureAddr,fieldPlace,dY hσ,show σ.size≠0 by omega]
theorem Hm{P:Program}{R:Type}{E:Env}(hE:jJ P E){bad:Nat->Prop}{t:TypeId}{x:AV}{f:Nat}{k:AV->Option R}{r:R}{v:Value}{bs:Ln}
  (hk:AC E t x f k=some r) (h:c9 β ob w bad x v bs) :
  ∃av u,k av=some r/\(Instr.fieldAt t v f).run P w = .ok u w/\c9 β ob w bad av u []:=by
 obtain⟨fields,fld,σ,hu,hf,hσ,hk⟩:=wc hE hk;split at hk;obtain⟨rfl,b,c,cs,hb,hl,rfl⟩:=h;exact⟨_,_,hk,rZ hu hf hσ,rfl,b,c,cs,hb,hl,by rw[Mr]⟩;obtain⟨rfl,τ,l,b,o,c,hl,hb,rfl⟩:=h;exact⟨_,_,hk,rZ hu hf hσ,rfl,τ,l,b,o,c,hl,hb,by rw[Mr];simp[NG]⟩;split at hk;split at hk;rename_i y hy;obtain⟨rfl,a,cs,rfl,hsp,hnb,he,hat⟩:=h;obtain⟨ds,hd,hj⟩:=Eo he hy;refine⟨_,_,hk,rZ hu hf hσ,rfl,_,ds,rfl,?_⟩;rw[add_plain hsp];exact⟨rfl,hnb,hd,hat.part hj⟩;cases hk;cases hk;cases hk
theorem Row.at{bad:Nat->Prop}{τ:Ty}{l:List τ.den}{b o c:Nat}(h:Row w bad τ l b o c){i:Nat}{x:τ.den}(hx:l[i]?=some x):∃ds,enc w bad τ x ds/\At w b (o+i*τ.size) ds:=by obtain⟨cells,elem,hh,_,_,hr⟩:=h;obtain⟨ds,he,hd⟩:=hr i x hx;exact⟨ds,he,fun j v hj=>by rw[cell_of hh];exact hd j v hj⟩
theorem Ep{bad:Nat->Prop}{τ:Ty}{x:τ.den}{cs:List Value}{u:Value}(he:enc w bad τ x cs)(hv:kj τ u cs):c9 β ob w bad (.d τ x) u []:=⟨rfl,cs,hv,he⟩
theorem JS{P:Program}{E:Env}(hE:jJ P E)(hot:∀t,(al E.ot t).isSome->∀w,(isAgg t).run P w = .ok false w){t:TypeId}(h:E.one t=true):(isAgg t).run P w = .ok false w:=by unfold Env.one at h;split at h;cases h;rename_i hne hty;rw[(hE.ty _ _ hty).agg w];split;rename_i a b;exact(hne _ _ rfl).elim;rfl;exact hot t h w
theorem nF{bad:Nat->Prop}{τ:Ty}:∀{l:List τ.den} {css:List (List Value)},css.length=l.length->(∀(i:Nat) (x:τ.den),l[i]?=some x->∃ds,css[i]?=some ds/\enc w bad τ x ds)->css.flatten.length=l.length*τ.size
 |[],[],_,_=>by simp
 |x::l,ds::css,hl,h=>by
  obtain⟨ds',hd,he⟩:=h 0 x rfl;simp only[Ip,s8]at hd;subst hd;have:=nF (l:=l) (css:=css) (by simpa using hl) fun i y hi=>by simpa using h (i+1) y (by simpa using hi)
  simp only[P5,ey,dK he,this,pI,Ad];omega
theorem CT{bad:Nat->Prop}{τ:Ty}{b:Nat}:∀{l:List τ.den} {o:Nat},(∀(i:Nat) (x:τ.den),l[i]?=some x->∃ds,enc w bad τ x ds/\At w b (o+i*τ.size) ds) ->
  ∃css:List (List Value),css.length=l.length/\(∀(i:Nat) (x:τ.den),l[i]?=some x->∃ds,css[i]?=some ds/\enc w bad τ x ds)/\At w b o css.flatten
 |[],o,_=>⟨[],rfl,fun i x h=>by simp at h,fun j v h=>by simp at h⟩
 |x::l,o,h=>by
  obtain⟨ds,he,hat⟩:=h 0 x rfl;obtain⟨css,h1,h2,h3⟩:=CT (l:=l) (o:=o+τ.size) fun i y hi=>by obtain⟨ds,he,hat⟩:=h (i+1) y (by simpa using hi);exact⟨ds,he,by rw[show o+τ.size+i*τ.size=o+(i+1)*τ.size from by rw[Ad];omega];exact hat⟩
  refine⟨ds::css,by simp[h1],fun i y hi=>?_,fun j v hj=>?_⟩
  .cases i with
   |zero=>simp at hi;subst hi;exact⟨ds,rfl,he⟩
   |succ i=>simpa using h2 i y (by simpa using hi)
  rw[P5]at hj;have hl:=dK he;rcases iQ j ds.length with hlt|hge;rw[su hlt]at hj;have:=hat j v hj;simpa using this;rw[vw hge]at hj;have:=h3 _ v hj;rw[show o+j=o+τ.size+(j-ds.length) from by omega];exact this
theorem Km{bad:Nat->Prop}{τ:Ty}{l:List τ.den}{b o c:Nat}(h:Row w bad τ l b o c):
  ∃css:List (List Value),css.length=l.length/\(∀(i:Nat) (x:τ.den),l[i]?=some x->∃ds,css[i]?=some ds/\enc w bad τ x ds)/\At w b o css.flatten:=
 CT fun i x hx=>h.at hx
theorem Cr{P:Program}{R:Type}{E:Env}(hE:jJ P E)(hot:∀t,(al E.ot t).isSome->∀w,(isAgg t).run P w = .ok false w){bad:Nat->Prop}(hO:rM b0 β ob w bad)(hown:∀b,dd β ob b->bad b){t:TypeId}{x:AV}{k:AV->Option R}{r:R}{v:Value}{bs:Ln}
  (hk:AT E ob t x k=some r) (h:c9 β ob w bad x v bs) :
  ∃av u,k av=some r/\(Instr.loadAt t v).run P w = .ok u w/\c9 β ob w bad av u []:=by
 unfold AT at hk;split at hk
 .rename_i key off;obtain⟨rfl,b,c,cs,hb,hl,rfl⟩:=h;rw[hl]at hk;simp only at hk;obtain⟨b',cells,elem,hb',hh,hv⟩:=hO.box key cs hl;rw[hb]at hb';simp only[s8,N3,true_and]at hb';obtain⟨rfl,rfl⟩:=hb';obtain⟨hlen,hpt⟩:=hv.pointwise;split at hk
  .rename_i n l hfs;obtain⟨fields,τ,hu,_,hty,rfl,⟨ta,tb,rfl⟩,_⟩:=hE.fs _ _ _ hfs;obtain⟨hc,hk⟩:=bO hk;simp only[eJ,uQ]at hc;obtain⟨hc1,hc2⟩:=hc;have hc1:=JP hc1;have hT:=hE.ty _ _ hty;obtain⟨u,hr,hrep⟩:=vv hT (b:=b) (o:=off) (cs:=cN cells.toList off (Ty.pair ta tb).size) (w:=w) (fun j v hj=>by rw[cell_of hh];simp only[cN,D5,Ku]at hj;split at hj;simpa using hj;cases hj) (by simp[cN];simp at hlen;omega)
   simp only[kj]at hrep;subst hrep;refine⟨_,_,hk,by simpa[Instr.loadAt,Instr.sureAddr]using hr,_,rfl,Vs.of (by simp[cN];simp at hlen;omega) fun i a v hi hv=>?_⟩;have hflat:=hc2 a (NL hi);simp only[cN,D5,Ku]at hi hv;split at hi;.rename_i hlt;rw[aa hlt]at hv;obtain⟨v',hv',hrel⟩:=hpt _ _ hi;rw[hv']at hv;cases hv;cases a<;>first|exact hrel|(simp[xk]at hflat)
   cases hi
  split at hk;rename_i c hc;obtain⟨h1,hk⟩:=bO hk;obtain⟨v',hv',hrel⟩:=hpt _ _ hc;refine⟨_,v',hk,?_,zL hrel⟩;have hcell:w.cell? ⟨b,off,none⟩=some v':=by rw[cell_of hh];simpa using hv'
  simp[Instr.loadAt,Instr.sureAddr,loadVar,JS hE hot h1,hcell];cases hk
 split at hk;rename_i key n _ _ τ l m e hkey har;obtain⟨hc,hk1⟩:=bO hk;clear hk;simp only[eJ,ir]at hc;obtain⟨hm,rfl⟩:=hc;have hm':=xN hm;clear hm;subst hm';obtain⟨te,inf,hu,hte,hi,hsz,_⟩:=hE.ar _ _ _ har;obtain⟨rfl,τ',l',b,c,hl',hn,hb,rfl⟩:=h;rw[hkey]at hl';cases hl';rcases hO.row key _ _ hkey with⟨hb',rfl⟩|⟨b',o',c',hb',hrow⟩;rw[hb]at hb';cases hb';rw[hb]at hb';simp only[s8,N3]at hb';obtain⟨rfl,rfl,rfl⟩:=hb';obtain⟨css,hcl,hcs,hcat⟩:=Km hrow;refine⟨_,_,hk1,?_,rfl,hn,css,rfl,hcl,hcs⟩;have hsize:css.flatten.length=inf.size:=by rw[hsz,<-hn];exact nF hcl hcs
 have:=run_loadCells_list (P:=P) w ⟨b,0,none⟩ css.flatten fun j v hj=>by rw[Mr];exact hcat j v hj
 simp[Instr.loadAt,Instr.sureAddr,loadVar,isAgg,uX hu,sizeOf,typeInfo,hi];rw[<-hsize,this];rfl;cases hk
 .obtain⟨hc,hk⟩:=bO hk;rename_i τ x;have hT:=hE.ty _ _ (uW hc);obtain⟨rfl,a,cs,rfl,hsp,hnb,he,hat⟩:=h;obtain⟨u,hr,hrep⟩:=vv hT hat (dK he);refine⟨_,u,hk,?_,Ep he hrep⟩;cases a with
  |mk b o s=>simp only at hsp;subst hsp;simpa[Instr.loadAt,Instr.sureAddr]using hr
 split at hk;rename_i key j off _ τ l hkey;split at hk;rename_i σ hσ;obtain⟨y,hy,hk⟩:=bind_some hk;split at hk;rename_i z hz;obtain⟨rfl,τ',l',b,o,c,hl',hb,rfl⟩:=h;rw[hkey]at hl';cases hl';rcases hO.row key _ _ hkey with⟨hb',rfl⟩|⟨b',o',c',hb',hrow⟩;simp at hy;rw[hb]at hb';simp only[s8,N3]at hb';obtain⟨rfl,rfl,rfl⟩:=hb';obtain⟨ds,he,hat⟩:=hrow.at hy;obtain⟨ds',hd',hj⟩:=Eo he hz;obtain⟨u,hr,hrep⟩:=vv (hE.ty _ _ hσ) (hat.part hj) (dK hd');exact⟨_,u,hk,by simpa[Instr.loadAt,Instr.sureAddr]using hr,Ep hd' hrep⟩;cases hk;cases hk;cases hk;cases hk
end
end
section
section
variable {b0:Nat->Prop} {β:bd} {ob:cW} {w:World}
theorem Ef{R:Type}{bad:Nat->Prop}{x:AV}{k:Int->Option R}{r:R}{v:Value}{bs:Ln}(hk:G5 ob x k=some r)(h:c9 β ob w bad x v bs):
  ∃(A:Option Addr) (n c:Nat),k (n:Int)=some r/\v = .slice A n c:=by
 unfold G5 at hk;split at hk;obtain⟨_,rfl⟩:=h;exact⟨none,0,0,hk,rfl⟩;obtain⟨_,cs,hv,he⟩:=h;simp only[kj]at hv;subst hv;obtain⟨A,c,hv,_⟩:=he;simp only[Im,Ko]at hv;exact⟨A,_,c,hk,hv⟩;obtain⟨_,A,rfl,_⟩:=h;exact⟨A,_,_,hk,rfl⟩;rcases h with⟨⟨A,rfl⟩,rfl,_⟩|⟨b,o,c,_,rfl,_⟩;exact⟨A,0,0,hk,rfl⟩;exact⟨_,_,c,hk,rfl⟩;split at hk;rename_i key _ τ l hkey;obtain⟨_,τ',l',hl',hs⟩:=h;rw[hkey]at hl';cases hl';unfold sJ at hs;split at hs;obtain⟨⟨A,rfl⟩,hz⟩:=hs;rw[hz]at hk;exact⟨A,0,0,hk,rfl⟩;obtain⟨A,c,rfl,_⟩:=hs;exact⟨_,_,c,hk,rfl⟩;cases hk;obtain⟨_,τ',l',hl',_,hs⟩:=h;unfold sJ at hs;split at hs;obtain⟨⟨A,rfl⟩,hz⟩:=hs;rw[hz]at hk;exact⟨A,0,0,hk,rfl⟩;obtain⟨A,c,rfl,_⟩:=hs;exact⟨_,_,c,hk,rfl⟩;cases hk
def Bp(v:Option Value)(d X:Int):Prop:=(v=none/\X=d)\/∃κ,v=some (.int κ X)
theorem Ba{R:Type}{a:Option AV}{v:Option Value}{d:Int}{k:Int->Option R}{r:R}(hk:qn.boundK a d k=some r){bad:Nat->Prop}
  (h:(a=none/\v=none)\/∃x u bs,a=some x/\v=some u/\c9 β ob w bad x u bs):∃X,k X=some r/\Bp v d X:=by
 unfold qn.boundK at hk;rcases h with⟨rfl,rfl⟩|⟨x,u,bs,rfl,rfl,hr⟩;exact⟨_,hk,.inl ⟨rfl,rfl⟩⟩;obtain⟨κ,n,rfl,hk⟩:=gH hk;obtain⟨rfl,_⟩:=cP hr;exact⟨n,hk,.inr ⟨κ,rfl⟩⟩
theorem oe{P:Program}{κ:IntKind}{X:Int}{y:Nat}{code:BoundsCode}(h0:0<=X)(h1:X<=y):(Instr.sliceBound (.int κ X) y code).run P w = .ok X.toNat w:=by simp[Instr.sliceBound,asIntOf,h0,h1]
theorem pa{P:Program}{t te:TypeId}{e:Ty}(hu:P.underlying t=some (.slice te))(he:gE P te e){A:Option Addr}{n c:Nat}{lo hi:Option Value}{L H:Int}
  (hlo:Bp lo 0 L) (hhi:Bp hi n H) (h0:0<=L) (h1:L<=H) (h2:H<=n) (h3:n<=c) :
  (Instr.sliceAt t (.slice A n c) lo hi none).run P w = .ok (.slice (if c=L.toNat then A else A.map (·.add (L.toNat*e.size))) (H.toNat-L.toNat) (c-L.toNat)) w:=by
 rcases hlo with⟨rfl,rfl⟩|⟨κ,rfl⟩<;>rcases hhi with⟨rfl,rfl⟩|⟨κ',rfl⟩;simp[Instr.sliceAt,Instr.slice,uX hu,Instr.sliceBounds,dY he];simp[Instr.sliceAt,Instr.slice,uX hu,Instr.sliceBounds,dY he,oe (w:=w) (P:=P) (κ:=κ') (X:=H) (y:=c) (by omega) (by omega)];have hb:=fun code=>oe (w:=w) (P:=P) (κ:=κ) (X:=L) (y:=n) (code:=code) h0 (by omega);simp[Instr.sliceAt,Instr.slice,uX hu,Instr.sliceBounds,dY he,hb];have hb:=fun code=>oe (w:=w) (P:=P) (κ:=κ) (X:=L) (y:=H.toNat) (code:=code) h0 (by omega);have hb':=fun code=>oe (w:=w) (P:=P) (κ:=κ') (X:=H) (y:=c) (code:=code) (by omega) (by omega);simp[Instr.sliceAt,Instr.slice,uX hu,Instr.sliceBounds,dY he,hb,hb']
theorem ub{P:Program}{t te:TypeId}{e:Ty}(hu:P.underlying t=some (.slice te))(he:gE P te e){A:Option Addr}{n c:Nat}{lo:Option Value}{κ κ':IntKind}{L H:Int}
  (hlo:Bp lo 0 L) (h0:0<=L) (h1:L<=H) (h2:H<=n) (h3:n<=c) :
  (Instr.sliceAt t (.slice A n c) lo (some (.int κ H)) (some (.int κ' H))).run P w = .ok (.slice (if H.toNat=L.toNat then A else A.map (·.add (L.toNat*e.size))) (H.toNat-L.toNat) (H.toNat-L.toNat)) w:=by
 have hb1:=fun code=>oe (w:=w) (P:=P) (κ:=κ') (X:=H) (y:=c) (code:=code) (by omega) (by omega);have hb2:=fun code=>oe (w:=w) (P:=P) (κ:=κ) (X:=H) (y:=H.toNat) (code:=code) (by omega) (by omega);rcases hlo with⟨rfl,rfl⟩|⟨κ2,rfl⟩;simp[Instr.sliceAt,Instr.slice,uX hu,Instr.sliceBounds,dY he,hb1,hb2];have hb:=fun code=>oe (w:=w) (P:=P) (κ:=κ2) (X:=L) (y:=H.toNat) (code:=code) h0 (by omega);simp[Instr.sliceAt,Instr.slice,uX hu,Instr.sliceBounds,dY he,hb,hb1,hb2]
theorem wN{α:Type}{l m:List α}{L H:Int}(h:kb l L H=some m):0<=L/\L<=H/\H<=(l.length:Int)/\m=(l.take H.toNat).drop L.toNat:=by unfold kb at h;split at h;rename_i hc;simp only[s8]at h;exact⟨hc.1,hc.2.1,hc.2.2,h.symm⟩;cases h
theorem FI{bad:Nat->Prop}{e:Ty}{l:List e.den}{A:Option Addr}{n c:Nat}(he:enc w bad (.list e) l [.slice A n c]){L H:Int}(h0:0<=L)(h1:L<=H)(h2:H<=(l.length:Int)){m:Nat}(hm:H.toNat<=m)(hmc:m<=c):
  enc w bad (.list e) ((l.take H.toNat).drop L.toNat) [.slice (if m=L.toNat then A else A.map (·.add (L.toNat*e.size))) (H.toNat-L.toNat) (m-L.toNat)]:=by
 obtain⟨A',c'',hv,hl,hz,hr⟩:=he;simp only[Im,Ko,Dl]at hv;obtain⟨rfl,_,rfl⟩:=hv;have hlen:((l.take H.toNat).drop L.toNat).length=H.toNat-L.toNat:=by simp;omega
 refine⟨_,m-L.toNat,by rw[hlen],by omega,fun hn=>?_,fun a ha i x hx=>?_⟩;split at hn;omega;simp at hn;have:=hz hn;omega;have hi:i<H.toNat-L.toNat:=by rw[<-hlen];rcases iQ i ((l.take H.toNat).drop L.toNat).length with h|h;exact h;rw[qA h]at hx;cases hx
 have hx':(show List e.den from l)[L.toNat+i]?=some x:=by rw[Ku,D5]at hx;rw[aa (by omega)]at hx;exact hx
 split at ha;omega;simp only[LV]at ha;obtain⟨a',rfl,rfl⟩:=ha;obtain⟨hsp,hnb,ds,hd,hat⟩:=hr a' rfl _ x hx';rw[add_plain hsp];exact⟨rfl,hnb,ds,hd,by simp only;rw[show a'.off+L.toNat*e.size+i*e.size=a'.off+(L.toNat+i)*e.size from by rw[Ad];omega];exact hat⟩
theorem CS{R:Type}{c:Bool}{k:Unit->Option R}{r:R}(h:(HW c).bind k=some r):c=true/\k ()=some r:=by
 cases c with
 |true=>exact⟨rfl,h⟩
 |false=>cases h
theorem NU{key size off len:Nat}{v:Value}{A:Option Addr}{n c:Nat}(hs:sJ β key size off len v)(hv:v = .slice A n c):len=n:=by unfold sJ at hs;split at hs;obtain⟨⟨A',rfl⟩,hz⟩:=hs;simp only[Dl]at hv;omega;obtain⟨A,c,rfl,_⟩:=hs;simp only[Dl]at hv;omega
theorem Gu{P:Program}{R:Type}{E:Env}(hE:jJ P E){bad:Nat->Prop}(hO:rM b0 β ob w bad){t:TypeId}{x:AV}{lo hi mx:Option AV}{vlo vhi vmx:Option Value}{k:AV->Option R}{r:R}{v:Value}{bs:Ln}
  (hk:qn E ob t x lo hi mx k=some r) (h:c9 β ob w bad x v bs)
  (hlo:(lo=none/\vlo=none)\/∃x u bs,lo=some x/\vlo=some u/\c9 β ob w bad x u bs)
  (hhi:(hi=none/\vhi=none)\/∃x u bs,hi=some x/\vhi=some u/\c9 β ob w bad x u bs)
  (hmx:(mx=none/\vmx=none)\/∃x u bs,mx=some x/\vmx=some u/\c9 β ob w bad x u bs) :
  ∃av u,k av=some r/\(Instr.sliceAt t v vlo vhi vmx).run P w = .ok u w/\c9 β ob w bad av u []:=by
 unfold qn at hk;split at hk;cases hk;rename_i et het;obtain⟨te,hu,hte⟩:=(hE.ty _ _ (fT het)).listU;obtain⟨A0,n0,c0,hk,hv0⟩:=Ef hk h;obtain⟨L,hk,hL⟩:=Ba hk hlo;obtain⟨H,hk,hH⟩:=Ba hk hhi;have cut:∀{key:Nat} {τ:Ty} {l:List τ.den} {off len:Nat},τ=et->al ob key=some (.row τ l)->off+len<=l.length->len=n0->sJ β key τ.size off len v->vmx=none ->
   0<=L->L<=H->H<=(n0:Int)->∃u,(Instr.sliceAt t v vlo vhi vmx).run P w = .ok u w/\c9 β ob w bad (.own key (off+L.toNat) (H-L).toNat) u []:=by
  intro key τ l off len hτ hkey hol hlen hs hmx' h0 h1 h2;subst hτ;subst hmx';subst hlen;unfold sJ at hs;split at hs;rename_i hβ;obtain⟨⟨A',rfl⟩,hz⟩:=hs;simp only[Dl]at hv0;obtain⟨rfl,_,rfl⟩:=hv0;obtain rfl:L=0:=by omega
  obtain rfl:H=0:=by omega
  have:=pa (P:=P) (w:=w) (A:=A') (n:=0) (c:=0) hu hte hL (by rw[hz]at hH;exact hH) (by omega) (by omega) (by simp) (by omega);refine⟨_,this,rfl,τ,l,hkey,by simp;omega,?_⟩;unfold sJ;rw[hβ];simp;rename_i b o c1 hβ;obtain⟨A,c,rfl,g1,g2,g3⟩:=hs;simp only[Dl]at hv0;obtain⟨rfl,_,rfl⟩:=hv0;have:=pa (P:=P) (w:=w) (A:=some ⟨b,A,none⟩) (n:=len) (c:=c) hu hte hL hH h0 h1 h2 g1;refine⟨_,this,rfl,τ,l,hkey,by omega,?_⟩;unfold sJ;rw[hβ];refine⟨if c=L.toNat then A else A+L.toNat*τ.size,c-L.toNat,?_,by omega,by omega,fun hne=>?_⟩;rw[show(H-L).toNat=H.toNat-L.toNat from by omega];split;rfl;simp[Mr];rw[ab (by omega),g3 (by omega),Ad];omega
 split at hk;rcases hmx with⟨_,rfl⟩|⟨_,_,_,hc,_⟩;obtain⟨m,hm,hk⟩:=bind_some hk;obtain⟨h0,h1,h2,_⟩:=wN hm;obtain⟨rfl,rfl⟩:=h;simp only[Dl]at hv0;obtain⟨rfl,rfl,rfl⟩:=hv0;simp at h2;obtain rfl:L=0:=by omega
 obtain rfl:H=0:=by omega
 refine⟨_,_,hk,pa hu hte hL hH (by omega) (by omega) (by simp) (by omega),rfl,?_⟩;simp;cases hc;rcases hmx with⟨_,rfl⟩|⟨_,_,_,hc,_⟩;obtain⟨hc,hk1⟩:=bO hk;obtain⟨m,hm,hkz⟩:=bind_some hk1;obtain⟨h0,h1,h2,rfl⟩:=wN hm;obtain rfl:=uW hc;obtain⟨rfl,cs,hv,he⟩:=h;simp only[kj]at hv;subst hv;have he':=he;obtain⟨A,c,hv,hl,_⟩:=he;simp only[Im,Ko]at hv;subst hv;simp only[Dl]at hv0;obtain⟨rfl,rfl,rfl⟩:=hv0;exact⟨_,_,hkz,pa hu hte hL hH h0 h1 h2 hl,rfl,_,rfl,FI he' h0 h1 h2 (m:=c) (by omega) (dD _)⟩;cases hc;rename_i e l m0 _ _ _;rcases hmx with⟨hc,_⟩|⟨xm,um,bm,hc,rfl,hrm⟩;cases hc;cases hc;obtain⟨hc,hk1⟩:=bO hk;obtain⟨κ,M,rfl,hk2⟩:=gH hk1;obtain⟨rfl,_⟩:=cP hrm;obtain⟨m,hm,hk3⟩:=bind_some hk2;obtain⟨h0,h1,h2,rfl⟩:=wN hm;simp only[eJ,ir]at hc;obtain⟨he0,hsome⟩:=hc;subst he0;split at hk3;rename_i hMH;subst hMH;obtain⟨rfl,cs,hv,he⟩:=h;simp only[kj]at hv;subst hv;have he':=he;obtain⟨A,c,hv,hl,_⟩:=he;simp only[Im,Ko]at hv;subst hv;simp only[Dl]at hv0;obtain⟨rfl,rfl,rfl⟩:=hv0;rcases hH with⟨rfl,hH⟩|⟨κ',rfl⟩;exfalso;rcases hhi with⟨h',_⟩|⟨_,_,_,_,h',_⟩;rw[h']at hsome;cases hsome;cases h';refine⟨_,_,hk3,ub hu hte hL h0 h1 h2 hl,rfl,(if M.toNat=L.toNat then A else A.map (·.add (L.toNat*e.size))),?_,FI he' h0 h1 h2 (m:=M.toNat) (dD _) (by omega)⟩;rw[F7,lE,Pk (by omega)];cases hk3;rcases hmx with⟨_,rfl⟩|⟨_,_,_,hc,_⟩;obtain⟨hc,hk1⟩:=bO hk;obtain⟨m,hm,hkz⟩:=bind_some hk1;obtain⟨h0,h1,h2,rfl⟩:=wN hm;obtain rfl:=uW hc;obtain⟨rfl,A,rfl,he⟩:=h;simp only[Dl]at hv0;obtain⟨rfl,rfl,_⟩:=hv0;exact⟨_,_,hkz,pa hu hte hL hH h0 h1 h2 (dD _),rfl,_,rfl,FI he h0 h1 h2 (m:=_) (by omega) (dD _)⟩;cases hc;rcases hmx with⟨_,rfl⟩|⟨_,_,_,hc,_⟩;split at hk;rename_i key _ τ l hkey;obtain⟨hc,hk1⟩:=bO hk;obtain⟨hc2,hk⟩:=CS hk1;simp only[eJ,ir]at hc2;obtain⟨_,τ',l',hl',hs⟩:=h;rw[hkey]at hl';cases hl';have hn:l.length=n0:=by unfold sJ at hs;split at hs;obtain⟨⟨A1,rfl⟩,hz⟩:=hs;simp only[Dl]at hv0;omega;obtain⟨A,c,rfl,_⟩:=hs;simp only[Dl]at hv0;omega
 obtain⟨u,g1,g2⟩:=cut (off:=0) (uW hc) hkey (by omega) hn hs rfl hc2.1.1 hc2.1.2 hc2.2;exact⟨_,u,hk,g1,by rw[Dk]at g2;exact g2⟩;cases hk;cases hc;rcases hmx with⟨_,rfl⟩|⟨_,_,_,hc,_⟩;split at hk;rename_i hkey;obtain⟨hc,hk1⟩:=bO hk;obtain⟨hc2,hk⟩:=CS hk1;simp only[eJ,ir]at hc2;obtain⟨_,τ',l',hl',hol,hs⟩:=h;rw[hkey]at hl';cases hl';obtain⟨u,g1,g2⟩:=cut (uW hc) hkey hol (NU hs hv0) hs rfl hc2.1.1 hc2.1.2 hc2.2;exact⟨_,u,hk,g1,g2⟩;cases hk;cases hc;rename_i key m0 _ _ _;rcases hmx with⟨hc,_⟩|⟨xm,um,bm,hc,rfl,hrm⟩;cases hc;cases hc;split at hk;rename_i τ l hkey;obtain⟨hc,hk1⟩:=bO hk;obtain⟨κ,M,rfl,hk2⟩:=gH hk1;obtain⟨rfl,_⟩:=cP hrm;obtain⟨hc2,hk3⟩:=CS hk2;simp only[eJ,ir]at hc hc2;obtain⟨rfl,hsome⟩:=hc;obtain⟨⟨h0,h1⟩,h2⟩:=hc2;split at hk3;rename_i hMH;have hMH':H=M:=hMH.symm;subst hMH';obtain⟨_,τ',l',hl',hs⟩:=h;rw[hkey]at hl';cases hl';rcases hH with⟨rfl,hH⟩|⟨κ',rfl⟩;exfalso;rcases hhi with⟨h',_⟩|⟨_,_,_,_,h',_⟩;rw[h']at hsome;cases hsome;cases h';unfold sJ at hs;split at hs;rename_i hβ;obtain⟨⟨A',rfl⟩,hz⟩:=hs;simp only[Dl]at hv0;obtain⟨rfl,hn0,rfl⟩:=hv0;obtain rfl:L=0:=by omega
 obtain rfl:H=0:=by omega
 have:=ub (P:=P) (w:=w) (A:=A') (n:=0) (c:=0) (κ:=κ') (κ':=κ) hu hte hL (H:=0) (by omega) (by omega) (by simp) (by omega);refine⟨_,_,hk3,this,rfl,τ,l,hkey,by simp,?_⟩;unfold sJ;rw[hβ];simp;rename_i b o c1 hβ;obtain⟨A,c,rfl,g1,g2,g3⟩:=hs;simp only[Dl]at hv0;obtain⟨rfl,hn0,rfl⟩:=hv0;have:=ub (P:=P) (w:=w) (A:=some ⟨b,A,none⟩) (n:=l.length) (c:=c) (κ:=κ') (κ':=κ) hu hte hL (H:=H) h0 h1 (by omega) g1;refine⟨_,_,hk3,this,rfl,τ,l,hkey,by omega,?_⟩;unfold sJ;rw[hβ];refine⟨if H.toNat=L.toNat then A else A+L.toNat*τ.size,H.toNat-L.toNat,?_,by omega,by omega,fun hne=>?_⟩;rw[show(H-L).toNat=H.toNat-L.toNat from by omega];split;rfl;simp[Mr];rw[ab (by omega),g3 (by omega),Q1,Ds];cases hk3;cases hk;cases hk
end
end
section
section
variable {b0:Nat->Prop} {β:bd} {ob:cW} {w:World} {f:Nat->Ln}
theorem xj(off:Nat):∀(l:List Value) (n:Nat) (cells:Array Value),((l.zipIdx n).foldl (fun cs (x:Value×Nat)=>cs.setIfInBounds (off+x.2) x.1) cells).size=cells.size
 |[],n,cells=>rfl
 |v::l,n,cells=>by simp only[List.zipIdx_cons,ue];rw[xj];simp
theorem Hi(off:Nat):∀(l:List Value) (n:Nat) (cells:Array Value) (k:Nat),off+n+l.length<=cells.size ->
  ((l.zipIdx n).foldl (fun cs (x:Value×Nat)=>cs.setIfInBounds (off+x.2) x.1) cells)[k]?=if off+n<=k/\k<off+n+l.length then l[k-(off+n)]? else cells[k]?
 |[],n,cells,k,_=>by simp;intro h1 h2;omega
 |v::l,n,cells,k,h=>by
  simp only[pI]at h;simp only[List.zipIdx_cons,ue];rw[Hi off l (n+1) _ k (by simp;omega)];by_cases h1:off+n=k;subst h1;have hlt:off+n<cells.size:=by omega
  rw[ab (by omega),aa (by simp),Q7];simp[hlt];by_cases h2:off+n<=k/\k<off+n+(l.length+1);rw[aa (by omega),aa (by simpa using h2)];rw[show k-(off+n)=(k-(off+(n+1)))+1 from by omega];simp;rw[ab (by omega),ab (by simpa using h2)];rw[Pm (by omega)]
theorem Ek{place:Nat->Option (Nat×Nat)}{cells:Array Value}{i off size:Nat}{v:Value}{rest:List (Nat×Value)}(hp:place i=some (off,size))(hs:v.cells.size=size)(hc:off+size<=cells.size):
  ∃cells',Instr.fill place cells ((i,v)::rest)=Instr.fill place cells' rest/\cells'.size=cells.size /\
   ∀k,cells'[k]?=if off<=k/\k<off+size then v.cells[k-off]? else cells[k]?:=by
 refine⟨(v.cells.toList.zipIdx 0).foldl (fun cs (x:Value×Nat)=>cs.setIfInBounds (off+x.2) x.1) cells,?_,xj _ _ _ _,fun k=>?_⟩;simp only[Instr.fill,hp];rw[ab (by simp[hs];omega)];congr 1;rw[<-Array.foldl_toList];congr 1;simp[Array.toList_zipIdx];rw[Hi off _ 0 cells k (by simp;omega)];simp[hs]
def Holds(w:World)(bad:Nat->Prop)(e:Ty)(l:List e.den)(cells:Array Value)(o:Nat):Prop:=
 ∀(i:Nat) (x:e.den),l[i]?=some x->∃ds,enc w bad e x ds/\∀(j:Nat) v,ds[j]?=some v->cells[o+i*e.size+j]?=some v
theorem Holds.mono{w w':World}{bad0 bad bad':Nat->Prop}(hs:bM bad0 w w')(h0:∀b,b<w.heap.size->bad0 b->bad b)(hb:∀b,b<w.heap.size->bad' b->bad b){e:Ty}{l:List e.den}{cells:Array Value}{o:Nat}
  (h:Holds w bad e l cells o):Holds w' bad' e l cells o:=fun i x hx=>let ⟨ds,he,hd⟩:=h i x hx;⟨ds,fe hs h0 hb he,hd⟩
inductive Dd(r:AV->Value->Prop):List (Nat×AV)->List (Nat×Value)->Prop
 |nil:Dd r [] []
 |cons {i a v as vs}:r a v->Dd r as vs->Dd r ((i,a)::as) ((i,v)::vs)
theorem AZ{R:Type}{bad bad':Nat->Prop}(hO:rM b0 β ob w bad)(hb:∀b,b<w.heap.size->bad' b->bad b){e:Ty}:
  ∀{ps:List (Nat×AV)} {vs:List (Nat×Value)} {acc:List e.den} {cells:Array Value} {k:List e.den->Option R} {r:R},
  Dd (fun a v=>∃bs,c9 β ob w bad a v bs/\∀b,b∈bs->¬bad' b) ps vs->rv ob e acc ps k=some r->cells.size=acc.length*e.size->Holds w bad' e acc cells 0 ->
  ∃l cells',k l=some r/\Instr.fill (fun i=>some (i*e.size,e.size)) cells vs=some cells'/\l.length=acc.length/\cells'.size=cells.size/\Holds w bad' e l cells' 0:=by
 intro ps
 induction ps with
 |nil=>intro vs acc cells k r hp hk hs hh;cases hp;exact⟨acc,cells,hk,rfl,rfl,rfl,hh⟩
 |cons p ps ih=>
  intro vs acc cells k r hp hk hs hh;cases hp with
  |cons h1 h2=>
   rename_i i a v vs;obtain⟨bs,hrel,hbs⟩:=h1;simp only[rv]at hk;obtain⟨hi,hk1⟩:=bO hk;have hi:i<acc.length:=JP hi;obtain⟨x,hk2,henc,_⟩:=xz hO hb hk1 hrel hbs (fun c _ _ ho=>by cases ho);have hlen:=dK henc;have hroom:i*e.size+e.size<=acc.length*e.size:=by have:(i+1)*e.size<=acc.length*e.size:=yk _ hi;rw[Ad]at this;omega
   obtain⟨cells',hf,hsz,hget⟩:=Ek (place:=fun i=>some (i*e.size,e.size)) (cells:=cells) (i:=i) (v:=v) (rest:=vs) rfl (by simpa using hlen) (by omega);obtain⟨l,cells'',g1,g2,g3,g4,g5⟩:=ih (acc:=acc.set i x) (cells:=cells') h2 hk2 (by simp[hsz,hs]) (fun j y hy=>by
    rw[zH]at hy;split at hy;rename_i hij;subst hij;cases hy;refine⟨_,henc,fun m u hm=>?_⟩;have hmlt:m<e.size:=by rw[<-hlen];rcases iQ m v.cells.toList.length with h|h;exact h;rw[qA h]at hm;cases hm
    rw[hget,aa (by omega),show 0+i*e.size+m-i*e.size=m from by omega];simpa using hm;rename_i hij;obtain⟨ds,hd,hdd⟩:=hh j y hy;refine⟨ds,hd,fun m u hm=>?_⟩;have hmlt:m<e.size:=by rw[<-dK hd];rcases iQ m ds.length with h|h;exact h;rw[qA h]at hm;cases hm
    rw[hget,ab,hdd m u hm];rintro⟨h1,h2⟩;rcases iQ i j with h|h;have:(i+1)*e.size<=j*e.size:=yk _ h;rw[Ad]at this;omega;have:(j+1)*e.size<=i*e.size:=yk _ (by omega);rw[Ad]at this;omega)
   exact⟨l,cells'',g1,by rw[hf];exact g2,by simpa using g3,by omega,g5⟩
theorem zq{bad:Nat->Prop}:∀(τ:Ty),enc w bad τ τ.zero (zeroV τ)
 |.int κ=>rfl
 |.bool=>rfl
 |.list e=>⟨none,0,rfl,dD _,fun _=>rfl,fun a h=>by cases h⟩
 |.pair a b=>⟨_,_,rfl,zq a,zq b⟩
theorem ko(τ:Ty):(zeroV τ).length=τ.size:=dK (zq (w:=default) (bad:=fun _=>False) τ)
theorem sa{bad:Nat->Prop}{e:Ty}{n:Nat}{cells:Array Value}(h:∀k,k<n*e.size->cells[k]?=(zeroV e)[k%e.size]?):Holds w bad e (List.replicate n e.zero) cells 0:=by
 intro i x hx;rw[Kt]at hx;split at hx;rename_i hi;cases hx;refine⟨_,zq e,fun j v hj=>?_⟩;have hjlt:j<e.size:=by rw[<-ko];rcases iQ j (zeroV e).length with h|h;exact h;rw[qA h]at hj;cases hj
 have:(i+1)*e.size<=n*e.size:=yk _ hi;rw[Ad]at this;rw[h _ (by omega),Dk,Nat.mul_comm,Nat.mul_add_mod,Nat.mod_eq_of_lt hjlt];exact hj;cases hx
theorem heap_alloc(o:Obj):(w.alloc o).heap[w.heap.size]?=some o:=by show(w.heap.push o)[w.heap.size]?=some o;simp
theorem kQ(bad:Nat->Prop)(o:Obj):bM bad w (w.alloc o):=bM.alloc bad w o
def C8(b0:Nat->Prop)(β:bd)(ob:cW)(f:Nat->Ln)(used:Ln)(b:Nat):Prop:=b0 b\/dd β ob b\/∃i,i∉used/\b∈f i
theorem zC{used:Ln}{b:Nat}(h:C8 b0 β ob f used b):Av b0 β ob f b:=by rcases h with h|h|⟨i,_,h⟩;exact .inl h;exact .inr (.inl h);exact .inr (.inr ⟨i,h⟩)
theorem Ey{sl:List AV}{tmps:Array Value}(h:SR b0 β ob w sl tmps f){used:Ln}{i b:Nat}(hi:i∈used)(hb:b∈f i):¬C8 b0 β ob f used b:=by rintro(h'|h'|⟨j,hj,hb'⟩);exact(h.fresh i b hb).2.1 h';exact(h.fresh i b hb).2.2 h';exact hj (h.disj i j b hb hb'▸hi)
theorem jF.fresh{used:Ln}{w':World}{av:AV}{v:Value}{b:Nat}(hs:bM (fun _=>False) w w')(hb:b<w'.heap.size)(hbw:w.heap.size<=b)
  (hr:c9 β ob w' (fun c=>C8 b0 β ob f used c\/c=b) av v [b]):jF b0 β ob f used w w' av v [b] where
 same:=hs.mono fun _ _ x=>x.elim
 rel:=fY (bad0:=fun _=>False) (bM.refl _ w') (fun _ _ x=>x.elim) (fun c _ hc=>by rcases hc with h|h|h|h;exact .inl (.inl h);exact .inl (.inr (.inl h));exact .inl (.inr (.inr h));exact .inr (by simpa using h)) (fun _ _ x=>x) hr
 nodup:=by simp
 from_:=fun c hc=>by
  have:c=b:=by simpa using hc
  subst this;exact⟨hb,.inr hbw⟩
end
end
section
structure HJ(P:Program)(E:Env):Prop where
 agg:∀t,(al E.ot t).isSome->∀w,(isAgg t).run P w = .ok false w
 size:∀t,(al E.ot t).isSome->∃i,P.info? t=some i/\i.size=1
 zero:∀t,(al E.ot t).isSome->∃i z,P.info? t=some i/\i.zero=some z/\z.cells.size=1
section
variable {b0:Nat->Prop} {β:bd} {ob:cW} {w:World} {f:Nat->Ln}
theorem gE.size_eq{P:Program}{t:TypeId}{τ σ:Ty}(h:gE P t τ)(h':gE P t σ):τ.size=σ.size/\zeroV τ=zeroV σ:=by obtain⟨i,z,hi,hs,_,hz,hc,_⟩:=h.info;obtain⟨i',z',hi',hs',_,hz',hc',_⟩:=h'.info;rw[hi]at hi';cases hi';rw[hz]at hz';cases hz';exact⟨hs.symm.trans hs',hc.symm.trans hc'⟩
theorem sizeOf_eq{P:Program}{E:Env}(hE:jJ P E)(hot:HJ P E){t:TypeId}{n:Nat}(h:E.sizeOf t=some n):∃i,P.info? t=some i/\i.size=n:=by unfold Env.sizeOf at h;split at h;rename_i m l hfs;cases h;obtain⟨_,τ,_,_,hty,hn,_⟩:=hE.fs _ _ _ hfs;obtain⟨i,_,hi,hs,_⟩:=(hE.ty _ _ hty).info;exact⟨i,hi,hs.trans hn⟩;split at h;rename_i τ hty;cases h;obtain⟨i,_,hi,hs,_⟩:=(hE.ty _ _ hty).info;exact⟨i,hi,hs⟩;split at h;rename_i u hu;cases h;exact hot.size t (by rw[hu];rfl);cases h
theorem DS{P:Program}{E:Env}(hE:jJ P E)(hot:HJ P E){t:TypeId}{n:Nat}{σ:Ty}(h:E.sizeOf t=some n)(hσ:gE P t σ):n=σ.size:=by obtain⟨i,hi,hs⟩:=sizeOf_eq hE hot h;obtain⟨i',_,hi',hs',_⟩:=hσ.info;rw[hi]at hi';cases hi';omega
theorem EE{bad:Nat->Prop}{a:AV}{v:Value}{bs:Ln}(h:jf β ob w bad a v bs)(hf:xk a=true):eO β ob w bad a v bs:=by cases a<;>first|exact h|(simp[xk]at hf)
theorem j9{bad:Nat->Prop}:∀(τ:Ty),Vs (eO β ob w bad) (zeroCells τ) (zeroV τ) []
 |.int κ=>.cons (b:=[]) ⟨rfl,_,rfl,rfl⟩ .nil
 |.bool=>.cons (b:=[]) ⟨rfl,_,rfl,rfl⟩ .nil
 |.list e=>.cons (b:=[]) ⟨rfl,rfl⟩ .nil
 |.pair a b=>by simp only[zeroCells,zeroV];exact(j9 a).app (j9 b)
theorem Vs.len{r:AV->Value->Ln->Prop}{as:List AV}{vs:List Value}{bs:Ln}(h:Vs r as vs bs):as.length=vs.length:=by
 induction h with
 |nil=>rfl
 |cons _ _ ih=>simp[ih]
theorem Vs.imp'{r r':AV->Value->Ln->Prop}{as:List AV}{vs:List Value}{bs:Ln}(h:Vs r as vs bs):
  (∀a v b,a∈as->(∀x∈b,x∈bs)->r a v b->r' a v b)->Vs r' as vs bs:=by
 induction h with
 |nil=>intro _;exact .nil
 |cons h1 _ ih=>intro hi;exact .cons (hi _ _ _ (by simp) (fun x hx=>by simp[hx]) h1) (ih fun a v b ha hb hr=>hi a v b (by simp[ha]) (fun x hx=>by simp[hb x hx]) hr)
inductive yh(r:AV->Value->Ln->Prop):List (Nat×AV)->List (Nat×Value)->Ln->Prop
 |nil:yh r [] [] []
 |cons {i a v b as vs bs}:r a v b->yh r as vs bs->yh r ((i,a)::as) ((i,v)::vs) (b++bs)
theorem El{place:Nat->Option (Nat×Nat)}{pre z rest:List Value}{i size:Nat}{v:Value}{vs:List (Nat×Value)}(hp:place i=some (pre.length,size))(hs:v.cells.size=size)(hz:z.length=size):
  Instr.fill place (pre++z++rest).toArray ((i,v)::vs)=Instr.fill place (pre++v.cells.toList++rest).toArray vs:=by
 obtain⟨cells',h1,h2,h3⟩:=Ek (place:=place) (cells:=(pre++z++rest).toArray) (rest:=vs) hp hs (by simp;omega);rw[h1];congr 1;apply JK;apply LQ;intro k;have:=h3 k;simp only[Qa];rw[this];simp only[Pl];by_cases hk1:k<pre.length;rw[ab (by omega),Dw,Dw,su hk1,su hk1];by_cases hk2:k<pre.length+size;rw[aa ⟨by omega,hk2⟩,Dw,vw (by omega),su (by simp[hs];omega)];simp;rw[ab (by omega),vw (by simp;omega),vw (by simp;omega)];congr 1;simp[hz,hs]
theorem GO{P:Program}{R:Type}{E:Env}(hE:jJ P E)(hot:HJ P E){bad:Nat->Prop}{place:Nat->Option (Nat×Nat)}{fs:List Field}{off:Nat}{τ:Ty}(hf:nV P fs off τ):
  ∀{ps:List (Nat×AV)} {vs:List (Nat×Value)} {bs:Ln} {i:Nat} {k:List AV->Option R} {r:R} {pre:List Value},
  om E (fs.map fun f=>(f.offset,f.type)) i ps k=some r->yh (c9 β ob w bad) ps vs bs->pre.length=off ->
  (∀(j:Nat) fl,fs[j]?=some fl->∃σ,gE P fl.type σ/\place (i+j)=some (fl.offset,σ.size)) ->
  ∃cs out,k cs=some r/\Instr.fill place (pre++zeroV τ).toArray vs=some (pre++out).toArray/\Vs (eO β ob w bad) cs out bs:=by
 induction hf with
 | @one fl off τ hoff hty=>
  intro ps vs bs i k r pre hk hp hl hpl;simp only[xe,JO,om]at hk;obtain⟨σ,hσ,hpi⟩:=hpl 0 fl rfl;obtain⟨hsz,hze⟩:=hσ.size_eq hty;cases hp with
  |nil=>simp only at hk;obtain⟨z,hz,hk⟩:=bind_some hk;simp only[Env.zeroOf,LV]at hz;obtain⟨τ',hτ',rfl⟩:=hz;have:=(hE.ty _ _ hτ').size_eq hty;refine⟨_,zeroV τ,by simpa using hk,rfl,?_⟩;rw[<-this.2];exact j9 τ'
  | @cons j a v b as vs' bs' h1 h2=>
   simp only at hk;cases hij:Nat.beq i j with
   |true=>
    rw[hij]at hk;have hij:=xN hij;subst hij;obtain⟨hc,hk⟩:=bO hk;simp only[eJ,Dq,uQ]at hc;have hsz':=DS hE hot hc.1 hty;have hne:cellsOf a≠[]:=by intro h;rw[h]at hsz';have:=τ.size_pos;simp at hsz';omega
    have hcells:=ln h1 hne;cases h2 with
    |nil=>
     simp only[s7]at hk ⊢;have hvl:v.cells.toList.length=τ.size:=by rw[<-hcells.len,<-hsz']
     refine⟨_,v.cells.toList,hk,?_,by rw[s7];exact hcells.imp' fun a' v' b' ha _ h=>EE h (hc.2 a' (by simpa using ha))⟩;have:=El (place:=place) (pre:=pre) (z:=zeroV τ) (rest:=[]) (i:=i) (size:=τ.size) (v:=v) (vs:=[]) (by rw[show i=i+0 from rfl,hpi,hoff,hl,hsz]) (by simpa using hvl) (ko τ);simp only[s7]at this;rw[this];rfl
    |cons _ _=>first|cases hk|(simp at hk)
   |false=>
    rw[hij]at hk;simp only[uP]at hk;obtain⟨z,hz,hk⟩:=bind_some hk
    first|cases hk|(simp at hk)
 | @more fl g rs off a b hoff hty _ ih=>
  intro ps vs bs i k r pre hk hp hl hpl;simp only[xe]at hk;unfold om at hk;obtain⟨σ,hσ,hpi⟩:=hpl 0 fl rfl;obtain⟨hsz,hze⟩:=hσ.size_eq hty;have hpl':∀(j:Nat) fl',(g::rs)[j]?=some fl'->∃σ,gE P fl'.type σ/\place (i+1+j)=some (fl'.offset,σ.size):=fun j fl' hj=>by
   have:=hpl (j+1) fl' (by simpa using hj)
   rwa [show i+1+j=i+(j+1) from by omega]
  have skip:∀{ps:List (Nat×AV)} {vs:List (Nat×Value)} {bs:Ln},yh (c9 β ob w bad) ps vs bs->((E.zeroOf fl.type).bind fun z=>om E ((g::rs).map fun f=>(f.offset,f.type)) (i+1) ps fun cs=>k (z++cs))=some r ->
    ∃cs out,k cs=some r/\Instr.fill place (pre++zeroV (a.pair b)).toArray vs=some (pre++out).toArray/\Vs (eO β ob w bad) cs out bs:=by
   intro ps vs bs hp hk;obtain⟨z,hz,hk⟩:=bind_some hk;simp only[Env.zeroOf,LV]at hz;obtain⟨τ',hτ',rfl⟩:=hz;have hz':=(hE.ty _ _ hτ').size_eq hty;obtain⟨cs,out,h1,h2,h3⟩:=ih (pre:=pre++zeroV a) hk hp (by simp[hl,ko]) hpl';refine⟨_,zeroV a++out,h1,by simpa[zeroV]using h2,?_⟩;have hzc:=j9 (β:=β) (ob:=ob) (w:=w) (bad:=bad) τ';rw[hz'.2]at hzc;exact hzc.app h3
  cases hp with
  |nil=>exact skip .nil hk
  | @cons j av v b' as vs' bs' h1 h2=>
   simp only at hk;cases hij:Nat.beq i j with
   |false=>rw[hij]at hk;exact skip (.cons h1 h2) hk
   |true=>
    rw[hij]at hk;have hij:=xN hij;subst hij;simp only[pD]at hk;obtain⟨hc,hk⟩:=bO hk;simp only[eJ,Dq,uQ]at hc;have hsz':=DS hE hot hc.1 hty;have hne:cellsOf av≠[]:=by intro h;rw[h]at hsz';have:=a.size_pos;simp at hsz';omega
    have hcells:=ln h1 hne;have hvl:v.cells.toList.length=a.size:=by rw[<-hcells.len,<-hsz']
    obtain⟨cs,out,g1,g2,g3⟩:=ih (pre:=pre++v.cells.toList) hk h2 (by simp at hvl ⊢;omega) hpl';refine⟨_,v.cells.toList++out,g1,?_,(hcells.imp' fun a' v' b' ha _ h=>EE h (hc.2 a' ha)).app g3⟩;have:=El (place:=place) (pre:=pre) (z:=zeroV a) (rest:=zeroV b) (i:=i) (size:=a.size) (v:=v) (vs:=vs') (by rw[show i=i+0 from rfl,hpi,hoff,hl,hsz]) (by simpa using hvl) (ko a);simp only[zeroV];rw[<-List.append_assoc,this,g2,Dw]
end
end
section
section
variable {b0:Nat->Prop} {β:bd} {ob:cW} {w:World} {f:Nat->Ln}
theorem uO{P:Program}:∀(l:List Field) (acc:Array (Nat×Nat)),(∀fl∈l,∃σ,gE P fl.type σ) ->
  ∃pl:List (Nat×Nat),(l.foldlM (fun(bs:Array (Nat×Nat)) (fl:Field)=>bs.push <$> (do pure (fl.offset,<-sizeOf fl.type):Sem (Nat×Nat))) acc).run P w = .ok (acc++pl.toArray) w /\
   pl.length=l.length/\∀(j:Nat) fl,l[j]?=some fl->∃σ,gE P fl.type σ/\pl[j]?=some (fl.offset,σ.size)
 |[],acc,_=>⟨[],by simp,rfl,fun j fl h=>by simp at h⟩
 |fl::l,acc,h=>by
  obtain⟨σ,hσ⟩:=h fl (by simp);obtain⟨pl,h1,h2,h3⟩:=uO l (acc.push (fl.offset,σ.size)) fun g hg=>h g (by simp[hg]);refine⟨(fl.offset,σ.size)::pl,?_,by simp[h2],fun j g hj=>?_⟩;simp only[List.foldlM_cons,u7,Sem.run_map,dY hσ,u9,Dt];rw[h1];congr 1;apply JK;simp
  .cases j with
   |zero=>simp at hj;subst hj;exact⟨σ,hσ,rfl⟩
   |succ j=>simpa using h3 j g (by simpa using hj)
theorem run_places{P:Program}(fields:Array Field)(h:∀fl∈fields.toList,∃σ,gE P fl.type σ):
  ∃pl:Array (Nat×Nat),(fields.mapM (fun fl=>do pure (fl.offset,<-sizeOf fl.type):Field->Sem (Nat×Nat))).run P w = .ok pl w /\
   ∀(j:Nat) fl,fields[j]?=some fl->∃σ,gE P fl.type σ/\pl[j]?=some (fl.offset,σ.size):=by
 obtain⟨pl,h1,_,h3⟩:=uO (w:=w) (P:=P) fields.toList #[] h;refine⟨pl.toArray,?_,fun j fl hj=>?_⟩;rw[Array.mapM_eq_foldlM,<-Array.foldlM_toList];simpa using h1;obtain⟨σ,h4,h5⟩:=h3 j fl (by simpa using hj);exact⟨σ,h4,by simpa using h5⟩
theorem nV.mem{P:Program}{fs:List Field}{off:Nat}{τ:Ty}(h:nV P fs off τ):∀fl∈fs,∃σ,gE P fl.type σ:=fun fl hfl=>by obtain⟨i,hi⟩:=P4 hfl;exact h.get hi
theorem FT{P:Program}{R:Type}{E:Env}(hE:jJ P E)(hot:HJ P E){bad:Nat->Prop}{t:TypeId}{n:Nat}{fl:List (Nat×Nat)}(hfs:al E.fs t=some (n,fl))
  {ps:List (Nat×AV)} {vs:Array (Nat×Value)} {bs:Ln} {k:AV->Option R} {r:R} (hk:om E fl 0 ps (fun l=>k (.agg l))=some r) (hp:yh (c9 β ob w bad) ps vs.toList bs) :
  ∃av u,k av=some r/\(Instr.build t vs).run P w = .ok u w/\c9 β ob w bad av u bs:=by
 obtain⟨fields,τ,hu,rfl,hty,_,_,hflds⟩:=hE.fs _ _ _ hfs;obtain⟨i,z,hi,_,_,hz,hzc,_⟩:=(hE.ty _ _ hty).info;obtain⟨pl,hpl,hplg⟩:=run_places (w:=w) (P:=P) fields hflds.mem;obtain⟨cs,out,h1,h2,h3⟩:=GO hE hot hflds (place:=(pl[·]?)) (pre:=[]) hk hp rfl fun j g hj=>by obtain⟨σ,h4,h5⟩:=hplg j g (by simpa using hj);exact⟨σ,h4,by simpa using h5⟩
 refine⟨_,.agg out.toArray,h1,?_,out,rfl,h3⟩;have hzc':z.cells=(zeroV τ).toArray:=by rw[<-hzc]
 simp only[Ac]at h2;simp only[Instr.build,zeroValue,typeInfo,u7,P1,u9,hi,hz,Dt,uX hu,hpl,hzc',h2]
theorem getElem?_rep{e:Ty}:∀{n k:Nat},k<n*e.size->(List.replicate n (zeroV e)).flatten[k]?=(zeroV e)[k%e.size]?
 |0,k,h=>by simp at h
 |n+1,k,h=>by rw[List.replicate_succ,P5];have hl:=ko e;by_cases hk:k<e.size;rw[su (by omega),Nat.mod_eq_of_lt hk];rw[vw (by omega),hl];rw[getElem?_rep (by rw[Ad]at h;omega)];congr 1;exact(Nat.mod_eq_sub_mod (by omega)).symm
theorem Cx{bad:Nat->Prop}{e:Ty}{cells:Array Value}:∀{l:List e.den} {o:Nat},Holds w bad e l cells o ->
  ∃css:List (List Value),css.length=l.length/\(∀(i:Nat) (x:e.den),l[i]?=some x->∃ds,css[i]?=some ds/\enc w bad e x ds)/\∀(j:Nat) v,css.flatten[j]?=some v->cells[o+j]?=some v
 |[],o,_=>⟨[],rfl,fun i x h=>by simp at h,fun j v h=>by simp at h⟩
 |x::l,o,h=>by
  obtain⟨ds,he,hat⟩:=h 0 x rfl;obtain⟨css,h1,h2,h3⟩:=Cx (l:=l) (o:=o+e.size) fun i y hi=>by obtain⟨ds,he,hat⟩:=h (i+1) y (by simpa using hi);exact⟨ds,he,by rw[show o+e.size+i*e.size=o+(i+1)*e.size from by rw[Ad];omega];exact hat⟩
  refine⟨ds::css,by simp[h1],fun i y hi=>?_,fun j v hj=>?_⟩
  .cases i with
   |zero=>simp at hi;subst hi;exact⟨ds,rfl,he⟩
   |succ i=>simpa using h2 i y (by simpa using hi)
  rw[P5]at hj;have hl:=dK he;rcases iQ j ds.length with hlt|hge;rw[su hlt]at hj;have:=hat j v hj;simpa using this;rw[vw hge]at hj;have:=h3 _ v hj;rw[show o+j=o+e.size+(j-ds.length) from by omega];exact this
theorem K9{bad:Nat->Prop}{e:Ty}{cells:Array Value}{l:List e.den}(h:Holds w bad e l cells 0)(hs:cells.size=l.length*e.size):
  ∃css:List (List Value),cells=css.flatten.toArray/\css.length=l.length/\(∀(i:Nat) (x:e.den),l[i]?=some x->∃ds,css[i]?=some ds/\enc w bad e x ds):=by
 obtain⟨css,h1,h2,h3⟩:=Cx h;refine⟨css,?_,h1,h2⟩;have hlen:=nF h1 h2;apply JK;apply LQ;intro j;simp only[Qa];rcases iQ j css.flatten.length with hlt|hge;have:=h3 j _ (c6 hlt);rw[Dk]at this;rw[this,c6 hlt];rw[qA hge,OU (by omega)]
theorem Hx{P:Program}{R:Type}{E:Env}(hE:jJ P E){bad bad':Nat->Prop}(hO:rM b0 β ob w bad)(hb:∀b,b<w.heap.size->bad' b->bad b){t:TypeId}{n:Nat}{e:Ty}(har:al E.ar t=some (n,e))
  {ps:List (Nat×AV)} {vs:Array (Nat×Value)} {k:AV->Option R} {r:R} (hk:rv ob e (List.replicate n e.zero) ps (fun l=>k (.arr n e l))=some r)
  (hp:Dd (fun a v=>∃bs,c9 β ob w bad a v bs/\∀b,b∈bs->¬bad' b) ps vs.toList) :
  ∃av u,k av=some r/\(Instr.build t vs).run P w = .ok u w/\c9 β ob w bad' av u []:=by
 obtain⟨te,i,hu,hte,hi,hsz,hz⟩:=hE.ar _ _ _ har;obtain⟨l,cells',h1,h2,h3,h4,h5⟩:=AZ hO hb (cells:=(List.replicate n (zeroV e)).flatten.toArray) hp hk (by simp[ko]) (sa fun k hk=>by simpa using getElem?_rep hk)
 simp only[qz]at h3;refine⟨_,.agg cells',h1,?_,?_⟩;simp[Instr.build,zeroValue,typeInfo,hi,hz,uX hu,dY hte,Value.cells,h2];obtain⟨css,g1,g2,g3⟩:=K9 h5 (by rw[h4,h3];simp[ko]);exact⟨rfl,h3,css,by rw[g1],g2,g3⟩
end
end
section
section
variable {b0:Nat->Prop} {β:bd} {ob:cW} {w:World} {f:Nat->Ln}
theorem Gc{e:Ty}{z:Value}(hz:z.cells.toList=zeroV e)(k:Nat):(zeroV e)[k%e.size]?=some (z.cells[k%z.cells.size]!):=by
 have hs:z.cells.size=e.size:=by rw[<-Array.length_toList,hz,ko]
 have hlt:k%e.size<e.size:=Nat.mod_lt _ e.size_pos;rw[hs,<-hz];simp[hs,hlt]
theorem GV{α:Type}{n:Int}{v:α}{l:List α}(h:Bm n v=some l):0<=n/\n<=68719476736/\l=List.replicate n.toNat v:=by unfold Bm at h;split at h;rename_i hc;simp only[s8]at h;exact⟨hc.1,hc.2,h.symm⟩;cases h
theorem MK{bad bad':Nat->Prop}{e:Ty}{te:TypeId}{z:Value}(hz:z.cells.toList=zeroV e)(n:Nat)(hn:n<=9223372036854775807):Row (w.alloc (.cells (madeCells z.cells (n*e.size)) te)) bad' e (List.replicate n e.zero) w.heap.size 0 n:=by refine⟨_,te,heap_alloc _,⟨by simp,hn⟩,by simp[size_madeCells],?_⟩;exact sa fun k hk=>by rw[Gc hz];simp[madeCells,hk]
theorem IE{P:Program}{R:Type}{E:Env}(hE:jJ P E){used:Ln}{t:TypeId}{e:Ty}(he:jw E t=some e){κ κ':IntKind}{n:Int}{k:AV->Option R}{r:R}{l:List e.den}
  (hm:Bm n e.zero=some l) (hk:k (.new e l)=some r) :
  ∃u w',(Instr.makeSlice t (.int κ n) (.int κ' n)).run P w = .ok u w'/\jF b0 β ob f used w w' (.new e l) u [w.heap.size]:=by
 obtain⟨te,hu,hte⟩:=(hE.ty _ _ (fT he)).listU;obtain⟨i,z,hi,hs,hb,hz,hzc,_⟩:=hte.info;obtain⟨h0,h1,rfl⟩:=GV hm;have hr:=run_make (P:=P) w t te i z hu hi hz κ κ' n n h0 (LK _) (by
  have:(i.bytes:Int)<=1024:=by omega
  have:(i.bytes:Int)*n<=1024*68719476736:=Int.mul_le_mul this h1 h0 (by omega);omega) (by omega)
 refine⟨_,_,hr,jF.fresh (kQ _ _) (by simp) (dD _) ?_⟩;rw[hs];exact .inr ⟨_,0,n.toNat,rfl,by simp,MK (bad:=fun _=>False) hzc _ (by omega)⟩
theorem Ej{bad bad':Nat->Prop}{e:Ty}{l:List e.den}{cells:Array Value}{te:TypeId}{c:Nat}(hc:l.length<=c/\c<=9223372036854775807)(hsz:c*e.size<=cells.size)(hh:Holds w bad e l cells 0)
  (hb:∀b,b<w.heap.size->bad' b->bad b):Row (w.alloc (.cells cells te)) bad' e l w.heap.size 0 c:=
 ⟨cells,te,heap_alloc _,hc,by simpa using hsz,hh.mono (bad0:=fun _=>False) (kQ _ _) (fun _ _ x=>x.elim) hb⟩
theorem AK{P:Program}{R:Type}{E:Env}(hE:jJ P E){sl:List AV}{tmps:Array Value}(hS:SR b0 β ob w sl tmps f){used:Ln}{t:TypeId}{e:Ty}(he:jw E t=some e){n:Nat}(hn:n*e.size<=16777216)
  {ps:List (Nat×AV)} {vs:Array (Nat×Value)} {k:AV->Option R} {r:R} (hk:rv ob e (List.replicate n e.zero) ps (fun l=>k (.new e l))=some r)
  (hp:Dd (fun a v=>∃bs,c9 β ob w (Av b0 β ob f) a v bs/\∀b,b∈bs->¬C8 b0 β ob f used b) ps vs.toList) :
  ∃av u w',k av=some r/\(Instr.buildSlice t n vs).run P w = .ok u w'/\jF b0 β ob f used w w' av u [w.heap.size]:=by
 obtain⟨te,hu,hte⟩:=(hE.ty _ _ (fT he)).listU;obtain⟨i,z,hi,hs,hb,hz,hzc,_⟩:=hte.info;have hp0:=e.size_pos;obtain⟨l,cells',h1,h2,h3,h4,h5⟩:=AZ hS.obs (fun b _ h=>zC h) (cells:=madeCells (if n*e.size=0 then #[] else z.cells) (n*e.size)) hp hk (by simp[size_madeCells]) (sa fun k hk=>by rw[Gc hzc,ab (by omega)];simp[madeCells,hk])
 simp only[qz]at h3;refine⟨_,.slice (some ⟨w.heap.size,0,none⟩) n n,w.alloc (.cells cells' te),h1,?_,jF.fresh (kQ _ _) (by simp) (dD _) ?_⟩;have h2':Instr.fill (fun i=>some (i*e.size,e.size)) ((Array.range (n*e.size)).map (fun x=>(if n*e.size=0 then #[] else z.cells)[x%(if n*e.size=0 then #[] else z.cells).size]!)) vs.toList=some cells':=h2;by_cases hz0:n*e.size=0;have hn':¬(16777216<n*e.size):=by omega
 simp only[hz0,sq]at h2';simp only[Instr.buildSlice,u7,uX hu,u9,dY hte,hz0,sq];rw[ab (by omega)];simp only[h2',u7,Dt,u9,newRow,run_newObj,World.alloc_eq];have hn':¬(2^24<n*e.size):=by omega
 simp only[hz0,JH]at h2';simp only[Instr.buildSlice,u7,uX hu,u9,dY hte];rw[ab (by omega),ab hz0];simp only[u7,Dt,u9,zeroValue,typeInfo,P1,hi,hz,h2',newRow,run_newObj,World.alloc_eq];exact .inr ⟨_,0,n,rfl,by rw[h3],Ej ⟨by omega,by have:=Nat.le_mul_of_pos_right n hp0;omega⟩ (by rw[h4];simp[size_madeCells]) h5 (fun b hlt hc=>by rcases hc with h|h;exact h;omega)⟩
end
end
section
section
variable {b0:Nat->Prop} {β:bd} {ob:cW} {w:World} {f:Nat->Ln}
theorem pc{bad:Nat->Prop}{e:Ty}{l:List e.den}{v:Value}(h:Reads w bad e l v):
  ∃(A:Option Addr) (c:Nat) (css:List (List Value)),v = .slice A l.length c/\l.length<=c/\(A=none->c=0)/\css.length=l.length/\(∀(i:Nat) (x:e.den),l[i]?=some x->∃ds,css[i]?=some ds/\enc w bad e x ds) /\
   (∀a,A=some a->(0<l.length->a.spot=none)/\∀j u,css.flatten[j]?=some u->w.cell? (a.add j)=some u):=by
 obtain⟨A,c,rfl,hl,hz,hr⟩:=h;cases A with
 |none=>have:l=[]:=tS (by have:=hz rfl;omega);subst this;exact⟨none,c,[],rfl,hl,hz,rfl,by simp,by simp⟩
 |some a=>
  cases l with
  |nil=>exact⟨some a,c,[],rfl,hl,hz,rfl,by simp,fun a' ha=>⟨by simp,by simp⟩⟩
  |cons x l=>
   have hsp:a.spot=none:=(hr a rfl 0 x rfl).1;obtain⟨css,h1,h2,h3⟩:=CT (w:=w) (bad:=bad) (τ:=e) (b:=a.block) (l:=x::l) (o:=a.off) fun i y hy=>by obtain⟨_,ds,h3,h4⟩:=hr a rfl i y hy;exact⟨ds,h3,h4⟩
   refine⟨some a,c,css,rfl,hl,hz,h1,h2,fun a' ha=>?_⟩;cases ha;refine⟨fun _=>hsp,fun j u hj=>?_⟩;rw[add_plain hsp];exact h3 j u hj
theorem zu{bad:Nat->Prop}:∀{τ:Ty} {x:τ.den} {cs:List Value},enc w bad τ x cs->∀u∈cs,u.oneCell'=true
 |.int κ,x,cs,h=>by have h:cs=_:=h;subst h;simp[Value.oneCell']
 |.bool,x,cs,h=>by have h:cs=_:=h;subst h;simp[Value.oneCell']
 |.list e,x,cs,h=>by obtain⟨A,c,rfl,_⟩:=h;simp[Value.oneCell']
 |.pair a b,x,cs,h=>by obtain⟨c1,c2,rfl,h1,h2⟩:=h;intro u hu;rcases jR.1 hu with hu|hu;exact zu h1 u hu;exact zu h2 u hu
theorem Ho{bad:Nat->Prop}{e:Ty}{l:List e.den}{css:List (List Value)}(hl:css.length=l.length)
  (h:∀(i:Nat) (x:e.den),l[i]?=some x->∃ds,css[i]?=some ds/\enc w bad e x ds):∀u∈css.flatten,u.oneCell'=true:=by
 intro u hu;obtain⟨ds,hd,hu⟩:=List.mem_flatten.1 hu;obtain⟨i,hi,rfl⟩:=Dj hd;have hi':i<l.length:=by omega
 obtain⟨ds',h1,h2⟩:=h i _ (c6 hi');rw[c6 hi]at h1;cases h1;exact zu h2 u hu
theorem kv{bad:Nat->Prop}{e:Ty}:∀{l:List e.den} {css:List (List Value)} {cells:Array Value} {o:Nat},css.length=l.length ->
  (∀(i:Nat) (x:e.den),l[i]?=some x->∃ds,css[i]?=some ds/\enc w bad e x ds)->(∀j u,css.flatten[j]?=some u->cells[o+j]?=some u)->Holds w bad e l cells o
 |[],css,cells,o,_,_,_=>fun i x hx=>by simp at hx
 |x::l,[],cells,o,hl,_,_=>by simp at hl
 |x::l,ds::css,cells,o,hl,h,hc=>by
  obtain⟨ds',h1,h2⟩:=h 0 x rfl;simp only[Ip,s8]at h1;subst h1;have hlen:=dK h2;have ih:=kv (l:=l) (css:=css) (cells:=cells) (o:=o+e.size) (by simpa using hl) (fun i y hy=>by simpa using h (i+1) y (by simpa using hy)) fun j u hj=>by
   have:=hc (e.size+j) u (by rw[P5,vw (by omega),hlen];simpa using hj)
   rwa [<-Nat.add_assoc]at this
  intro i y hy;cases i with
  |zero=>
   simp only[Ip,s8]at hy;subst hy;refine⟨ds,h2,fun j u hj=>?_⟩;have:=hc j u (by rw[P5,su];exact hj;rcases iQ j ds.length with h|h;exact h;rw[qA h]at hj;cases hj)
   simpa using this
  |succ i=>
   obtain⟨ds',g1,g2⟩:=ih i y (by simpa using hy);refine⟨ds',g1,fun j u hj=>?_⟩;have:=g2 j u hj
   rwa [show o+e.size+i*e.size=o+(i+1)*e.size from by rw[Ad];omega]at this
theorem Do{P:Program}(t ty te:TypeId)(i:TypeInfo)(ht:P.underlying t=some (.slice te))(hi:P.info? te=some i)
  (g o sLen sCap:Nat) (cur:Array Value) (el:TypeId) (hg:w.heap[g]?=some (.cells cur el (0,0)))
  (A:Option Addr) (m c:Nat) (news:List Value) (hl:news.length=m*i.size) (hz:A=none->news=[]) (hnews:∀a,A=some a->∀j u,news[j]?=some u->w.cell? (a.add j)=some u) (h1:∀u∈news,u.oneCell'=true)
  (hroom:sLen+m<=sCap) (hfit:o+sLen*i.size+news.length<=cur.size) :
  (Builtin.append_ #[t,t] ty #[.slice (some ⟨g,o,none⟩) sLen sCap,.slice A m c]).run P w =
   .ok (.slice (some ⟨g,o,none⟩) (sLen+m) sCap) (w.setRow g (cur.toList.take (o+sLen*i.size)++news++cur.toList.drop (o+sLen*i.size+news.length)).toArray):=by
 have hf:(Builtin.firstCells i.size m (.slice A m c)).run P w = .ok news.toArray w:=by
  cases A with
  |none=>rw[hz rfl];exact Q6 w i.size m m c
  |some a=>exact Qr (P:=P) w i.size m a m c news hl (hnews a rfl)
 have hst:=Ra P g (o+sLen*i.size) el news 0 cur w hg (by simpa using hfit) h1;simp only[Ds]at hst;simp[Builtin.append_,uX ht,sizeOf,typeInfo,hi,Builtin.lenOf,hroom,hf,Mr,hst]
theorem kP{g:Nat}{cs c0:Array Value}{e:TypeId}{fr:Nat×Nat}(hh:w.heap[g]?=some (.cells c0 e fr))(hsz:cs.size=c0.size):bM (· = g) w (w.setRow g cs):=by refine⟨by simp[World.setRow],fun b h hn=>?_,⟨rfl,rfl,rfl,fun b hb=>?_⟩⟩;simp only[World.setRow];rw[Qo,ab (fun h=>hn h.symm)];simp only[World.setRow];rw[Qo];split;rename_i he;subst he;rw[hh];simp[Ce,hsz];rfl
theorem HE{P:Program}{bad:Nat->Prop}{t te:TypeId}{ty:TypeId}{e:Ty}(hu:P.underlying t=some (.slice te))(hte:gE P te e){l ys:List e.den}{b o c:Nat}(hr:Row w bad e l b o c)(hb:bad b)
  {vy:Value} (hy:Reads w bad e ys vy) (hroom:l.length+ys.length<=c) :
  ∃w',(Builtin.append_ #[t,t] ty #[.slice (some ⟨b,o,none⟩) l.length c,vy]).run P w = .ok (.slice (some ⟨b,o,none⟩) (l++ys).length c) w'/\bM (· = b) w w'/\Row w' bad e (l++ys) b o c/\w'.heap.size=w.heap.size:=by
 obtain⟨A,c',css,rfl,h1,h2,h3,h4,h5⟩:=pc hy;obtain⟨i,z,hi,hs,_⟩:=hte.info;obtain⟨cells,el,hh,hl,hsz,hrd⟩:=hr;have hlen:=nF h3 h4;have hbound:(l.length+ys.length)*e.size<=c*e.size:=yk _ hroom;rw[Ad]at hbound;have hrun:=Do (w:=w) (P:=P) t ty te i hu hi b o l.length c cells el hh A ys.length c' css.flatten (by rw[hs,hlen]) (fun hA=>by have:css=[]:=tS (by have:=h2 hA;omega);rw[this];rfl) (fun a ha=>(h5 a ha).2) (Ho h3 h4) hroom (by rw[hs,hlen];omega)
 rw[hs]at hrun;have hsame:=kP (w:=w) (cs:=(List.take (o+l.length*e.size) cells.toList++css.flatten++List.drop (o+l.length*e.size+css.flatten.length) cells.toList).toArray) hh (by simp only[P6,ey,lE,F7,OT];omega);refine⟨_,by rw[ey];exact hrun,hsame,⟨_,el,P2 w b cells _ el _ hh,by simp;omega,?_,?_⟩,by simp[World.setRow]⟩;simp;omega
 .have hget:∀k,(List.take (o+l.length*e.size) cells.toList++css.flatten++List.drop (o+l.length*e.size+css.flatten.length) cells.toList).toArray[k]? =
    if k<o+l.length*e.size then cells[k]? else if k<o+l.length*e.size+css.flatten.length then css.flatten[k-(o+l.length*e.size)]? else cells[k]?:=by
   intro k;have htl:(List.take (o+l.length*e.size) cells.toList).length=o+l.length*e.size:=by simp;omega
   simp only[Pl,Dw];by_cases hk:k<o+l.length*e.size;rw[aa hk,su (by omega),Qs hk];simp;rw[ab hk,vw (by omega),htl];by_cases hk2:k<o+l.length*e.size+css.flatten.length;rw[aa hk2,su (by omega)];rw[ab hk2,vw (by omega),Ku];rw[show o+l.length*e.size+css.flatten.length+(k-(o+l.length*e.size)-css.flatten.length)=k from by omega];simp
  intro j x hx;rcases iQ j l.length with hj|hj;rw[su hj]at hx;obtain⟨ds,he,hd⟩:=hrd j x hx;refine⟨ds,fe hsame (fun b' _ h=>by rw[h];exact hb) (fun _ _ h=>h) he,fun m u hm=>?_⟩;have hmlt:m<e.size:=by rw[<-dK he];rcases iQ m ds.length with h|h;exact h;rw[qA h]at hm;cases hm
  have:(j+1)*e.size<=l.length*e.size:=yk _ hj;rw[Ad]at this;rw[hget,aa (by omega)];exact hd m u hm
  .rw[vw hj]at hx;have hH:=kv (w:=w) (bad:=bad) (l:=ys) (css:=css) (o:=o+l.length*e.size) (cells:=(List.take (o+l.length*e.size) cells.toList++css.flatten++List.drop (o+l.length*e.size+css.flatten.length) cells.toList).toArray) h3 h4 fun k u hk=>by
    have hklt:k<css.flatten.length:=by rcases iQ k css.flatten.length with h|h;exact h;rw[qA h]at hk;cases hk
    rw[hget,ab (by omega),aa (by omega),show o+l.length*e.size+k-(o+l.length*e.size)=k from by omega];exact hk
   obtain⟨ds,he,hd⟩:=hH _ x hx;refine⟨ds,fe hsame (fun b' _ h=>by rw[h];exact hb) (fun _ _ h=>h) he,fun m u hm=>?_⟩;have:=hd m u hm
   rwa [show o+l.length*e.size+(j-l.length)*e.size+m=o+j*e.size+m from by rw[Nat.sub_mul];have:=yk e.size hj;omega]at this
theorem C9{P:Program}{bad:Nat->Prop}{t te:TypeId}{ty:TypeId}{e:Ty}(hu:P.underlying t=some (.slice te))(hte:gE P te e){l ys:List e.den}{vx vy:Value}{A:Option Addr}{c:Nat}(hx:Reads w bad e l vx)(hvx:vx = .slice A l.length c)
  (hy:Reads w bad e ys vy) (hA:A=none->c=0) (hroom:c<l.length+ys.length) (hlim:l.length+ys.length<=mR) :
  ∃u w',(Builtin.append_ #[t,t] ty #[vx,vy]).run P w = .ok u w'/\bM (fun _=>False) w w'/\w'.heap.size=w.heap.size+1 /\
   ∀bad',(∀b,b<w.heap.size->bad' b->bad b)->qM w' bad' e (l++ys) u [w.heap.size]:=by
 obtain⟨A1,c1,css1,h0,h1,h2,h3,h4,h5⟩:=pc hx;rw[hvx]at h0;simp only[Dl,true_and]at h0;obtain⟨rfl,rfl⟩:=h0;obtain⟨A2,c2,css2,rfl,g1,g2,g3,g4,g5⟩:=pc hy;obtain⟨i,z,hi,hs,hbt,hz,hzc,_⟩:=hte.info;subst hvx;have hl1:=nF h3 h4;have hl2:=nF g3 g4;unfold mR at hlim;have hys:0<ys.length:=by omega
 obtain⟨a2,rfl⟩:∃a2,A2=some a2:=by
  cases A2 with
  |some a=>exact⟨a,rfl⟩
  |none=>have:=g2 rfl;omega
 have hzl:z.cells.size=e.size:=by rw[<-Array.length_toList,hzc,ko]
 have fin:∀(cap:Nat),l.length+ys.length<=cap->cap<=9223372036854775807->∀(w1:World),w1=w.drew->∀bad',(∀b,b<w.heap.size->bad' b->bad b) ->
   qM (w1.alloc (.cells (css1.flatten.toArray++css2.flatten.toArray++Builtin.zeroCells z.cells (cap-(l.length+ys.length))) te)) bad' e (l++ys) (.slice (some ⟨w.heap.size,0,none⟩) (l.length+ys.length) cap) [w.heap.size]:=by
  intro cap hcap hcapB w1 hw1' bad' hbad';have hw1:w1.heap=w.heap:=by rw[hw1'];rfl
  refine .inr ⟨_,0,cap,rfl,by rw[ey],?_⟩;have hh:(w1.alloc (.cells (css1.flatten.toArray++css2.flatten.toArray++Builtin.zeroCells z.cells (cap-(l.length+ys.length))) te)).heap[w.heap.size]?=some (.cells (css1.flatten.toArray++css2.flatten.toArray++Builtin.zeroCells z.cells (cap-(l.length+ys.length))) te (0,0)):=by
   have:=heap_alloc (w:=w1) (.cells (css1.flatten.toArray++css2.flatten.toArray++Builtin.zeroCells z.cells (cap-(l.length+ys.length))) te)
   rwa [hw1]at this
  have hsame:bM (fun _=>False) w (w1.alloc (.cells (css1.flatten.toArray++css2.flatten.toArray++Builtin.zeroCells z.cells (cap-(l.length+ys.length))) te)):=by have:=kQ (w:=w1) (fun _=>False) (.cells (css1.flatten.toArray++css2.flatten.toArray++Builtin.zeroCells z.cells (cap-(l.length+ys.length))) te);subst hw1';exact(bM.drew _ w).trans this fun _ _ h=>h
  refine⟨_,te,hh,⟨by simp;omega,hcapB⟩,?_,?_⟩;simp only[Dk,Array.size_append,P6,hl1,hl2,size_zeroCells,hzl,<-Nat.add_mul];exact yk _ (by omega);have hlA:(css1++css2).length=(l++ys).length:=by simp[h3,g3]
  have hall:∀(i:Nat) (x:e.den),(l++ys)[i]?=some x->∃ds,(css1++css2)[i]?=some ds/\enc w bad e x ds:=by intro j x hj;rcases iQ j l.length with hlt|hge;rw[su hlt]at hj;rw[su (by omega)];exact h4 j x hj;rw[vw hge]at hj;rw[vw (by omega),h3];exact g4 _ x hj
  have hH:=kv (w:=w) (bad:=bad) (o:=0) (cells:=css1.flatten.toArray++css2.flatten.toArray++Builtin.zeroCells z.cells (cap-(l.length+ys.length))) hlA hall fun j u hj=>by
   have hjlt:j<(css1++css2).flatten.length:=by rcases iQ j (css1++css2).flatten.length with h|h;exact h;rw[qA h]at hj;cases hj
   rw[Dk,Rq (by simpa using hjlt)];simpa using hj
  exact hH.mono hsame (fun _ _ x=>x.elim) hbad'
 have hneed:(l.length+ys.length)*i.bytes<=140737488355328:=by have:=Nat.mul_le_mul hlim hbt;omega
 cases A with
 |none=>
  have hc:=hA rfl;subst hc;have hl0:l.length=0:=by omega
  have hle:l=[]:=tS hl0;subst hle;have hce:css1=[]:=tS (by simpa using h3);subst hce;simp only[E3,Dk]at *;have hr:=run_append_nil (P:=P) w t ty te i z hu hi hz a2 ys.length c2 css2.flatten (by rw[hs,hl2]) (g5 a2 rfl).2 hys (by omega) (by omega);refine⟨_,_,hr,?_,?_,?_⟩;exact(bM.drew _ w).trans (bM.alloc _ w.drew _) fun _ _ h=>h;show(w.heap.push _).size=_;simp;intro bad' hbad';have:=fin (grownCap w ys.length 0 te) (grownCap_ge w ys.length 0 te) (Rl w ys.length 0 te (by unfold maxLen;omega)) w.drew rfl bad' hbad';simpa using this
 |some a1=>have hr:=run_append_grow (P:=P) w t ty te i z hu hi hz a1 l.length c css1.flatten (by rw[hs,hl1]) (h5 a1 rfl).2 a2 ys.length c2 css2.flatten (by rw[hs,hl2]) (g5 a2 rfl).2 hroom (by omega) (growslice_fits hroom hneed);refine⟨_,_,hr,?_,?_,?_⟩;exact(bM.drew _ w).trans (bM.alloc _ w.drew _) fun _ _ h=>h;show(w.heap.push _).size=_;simp;intro bad' hbad';exact fin (grownCap w (l.length+ys.length) c te) (grownCap_ge w (l.length+ys.length) c te) (Rl w (l.length+ys.length) c te (by unfold maxLen;omega)) w.drew rfl bad' hbad'
end
end
section
section
variable {b0:Nat->Prop} {β:bd} {ob:cW} {w:World} {f:Nat->Ln}
theorem Vs.split2{r:AV->Value->Ln->Prop}:∀{as as':List AV} {vs:List Value} {bs:Ln},Vs r (as++as') vs bs ->
  ∃v1 v2 b1 b2,vs=v1++v2/\bs=b1++b2/\v1.length=as.length/\Vs r as v1 b1/\Vs r as' v2 b2
 |[],as',vs,bs,h=>⟨[],vs,[],bs,rfl,rfl,rfl,.nil,h⟩
 |a::as,as',vs,bs,h=>by rw[Kr]at h;obtain⟨v,vr,b,br,rfl,rfl,h1,h2⟩:=h.split;obtain⟨v1,v2,b1,b2,rfl,rfl,h3,h4,h5⟩:=Vs.split2 h2;exact⟨v::v1,v2,b++b1,b2,rfl,by rw[Dw],by simp[h3],.cons h1 h4,h5⟩
theorem Vs.sub{r:AV->Value->Ln->Prop}{as:List AV}{vs:List Value}{bs:Ln}(h:Vs r as vs bs)(off n:Nat):
  ∃b',Vs r (cN as off n) (cN vs off n) b'/\b'.Sublist bs:=by
 have hl:=h.len;have e1:as=as.take off++as.drop off:=(N5 off as).symm;rw[e1]at h;obtain⟨v1,v2,b1,b2,rfl,rfl,h1,h2,h3⟩:=h.split2;have e2:as.drop off=(as.drop off).take n++(as.drop off).drop n:=(N5 n _).symm;rw[e2]at h3;obtain⟨v3,v4,b3,b4,rfl,rfl,h4,h5,h6⟩:=h3.split2;refine⟨b3,?_,?_⟩;have:cN (v1++(v3++v4)) off n=v3:=by
  simp only[cN];rcases iQ off as.length with hlt|hge;have hv1:v1.length=off:=by rw[h1];simp;omega
  rw[<-hv1,List.drop_left];rcases iQ n (as.drop off).length with hn|hn;have:v3.length=n:=by rw[h4];simp only[lE];omega
  rw[<-this,List.take_left];have:v4=[]:=by have hl6:=h6.len;rw[Qp hn]at hl6;exact tS (by simpa using hl6.symm)
  subst this;have hl3:v3.length<=n:=by rw[h4];simp only[lE];omega
  rw[s7,BQ hl3];have hd:as.drop off=[]:=Qp hge;rw[hd]at h4 h6;have hv3:v3=[]:=tS (by simpa using h4);have hv4:v4=[]:=tS (by have:=h6.len;simpa using this.symm);subst hv3;subst hv4;have:v1.length<=off:=by rw[h1];simp;omega
  simp[Qp this]
 rw[this];exact h5;exact(Ro b3 b4).trans (Rp b1 _)
theorem xL{bad:Nat->Prop}:∀{τ:Ty} {cs:List AV} {vs:List Value} {bs:Ln},Vs (eO β ob w bad) cs vs bs->Vs (eO β ob w bad) (GG τ cs) vs bs
 |.pair a b,cs,vs,bs,h=>by simp only[GG];rw[<-List.take_append_drop a.size cs]at h;obtain⟨v1,v2,b1,b2,rfl,rfl,_,h1,h2⟩:=h.split2;exact(xL h1).app (xL h2)
 |.list e,cs,vs,bs,h=>by unfold GG;split;rename_i h1;cases h1;rename_i e' h1;cases h1;obtain⟨v,vr,b,br,rfl,rfl,h1,h2⟩:=h.split;cases h2;obtain⟨rfl,rfl⟩:=h1;exact .cons (b:=[]) (.inl ⟨⟨_,rfl⟩,rfl,rfl⟩) .nil;exact h
 |.int _,cs,vs,bs,h=>by unfold GG;exact h
 |.bool,cs,vs,bs,h=>by unfold GG;exact h
theorem uB{bad:Nat->Prop}{E:Env}{t:TypeId}{cs:List AV}{vs:List Value}{bs:Ln}(h:Vs (eO β ob w bad) cs vs bs):Vs (eO β ob w bad) (E.freshC t cs) vs bs:=by
 unfold Env.freshC;split
 .rename_i τ _;cases cs.length==τ.size with
  |true=>exact xL h
  |false=>exact h
 exact h
theorem AX{bad:Nat->Prop}{E:Env}{t:TypeId}{a:AV}{v:Value}{bs:Ln}(h:c9 β ob w bad a v bs):c9 β ob w bad (fresh E t a) v bs:=by unfold fresh;split;obtain⟨rfl,rfl⟩:=h;exact .inl ⟨⟨_,rfl⟩,rfl,rfl⟩;exact h
theorem jF.pass{used:Ln}{av:AV}{v:Value}{bs:Ln}{sl:List AV}{tmps:Array Value}(hS:SR b0 β ob w sl tmps f)(h:c9 β ob w (Av b0 β ob f) av v bs)(hn:bs.Nodup)
  (hb:∀b∈bs,∃i,i∈used/\b∈f i):jF b0 β ob f used w w av v bs where
 same:=bM.refl _ _
 rel:=fY (bad0:=fun _=>False) (bM.refl _ w) (fun _ _ x=>x.elim) (fun b _ hc=>by rcases hc with h|h|⟨i,_,h⟩|h;exact .inl h;exact .inr (.inl h);exact .inr (.inr ⟨i,h⟩);obtain⟨i,_,h⟩:=hb b h;exact .inr (.inr ⟨i,h⟩)) (fun _ _ x=>x) h
 nodup:=hn
 from_:=fun b hc=>by obtain⟨i,hi,h⟩:=hb b hc;exact⟨(hS.fresh i b h).1,.inl ⟨i,hi,h⟩⟩
theorem qu{P:Program}{t:TypeId}{v:Value}:(newVar t v).run P w = .ok ⟨w.heap.size,0,none⟩ (w.alloc (.cells v.cells t)):=by simp[newVar,newRow]
theorem Iw{used:Ln}{cs:List AV}{vs:List Value}{bs:Ln}{t:TypeId}{sl:List AV}{tmps:Array Value}(hS:SR b0 β ob w sl tmps f)(h:Vs (eO β ob w (Av b0 β ob f)) cs vs bs)(hn:bs.Nodup)
  (hb:∀b∈bs,∃i,i∈used/\b∈f i):jF b0 β ob f used w (w.alloc (.cells vs.toArray t)) (.nbox cs) (.pointer (some ⟨w.heap.size,0,none⟩)) (w.heap.size::bs) where
 same:=kQ _ _
 rel:=by refine⟨w.heap.size,vs.toArray,t,bs,rfl,rfl,heap_alloc _,?_⟩;have h':=h;refine h.imp fun a v b hbs hr=>fO (bad0:=fun _=>False) (kQ _ _) (fun _ _ x=>x.elim) (fun c hlt hc=>?_) (fun _ _ x=>x) hr;rcases hc with h|h|⟨i,_,h⟩|h;exact .inl h;exact .inr (.inl h);exact .inr (.inr ⟨i,h⟩);rcases eR.1 h with h|h;omega;obtain⟨i,_,h⟩:=hb c h;exact .inr (.inr ⟨i,h⟩)
 nodup:=by refine zI.2 ⟨fun h=>?_,hn⟩;obtain⟨i,_,h⟩:=hb _ h;have:=(hS.fresh i _ h).1;omega
 from_:=fun b hc=>by rcases eR.1 hc with rfl|hc;exact⟨by show _<(w.heap.push _).size;simp,.inr (dD _)⟩;obtain⟨i,hi,h⟩:=hb b hc;exact⟨uY (hS.fresh i b h).1 (kQ (fun _=>False) _).1,.inl ⟨i,hi,h⟩⟩
theorem ME{used:Ln}{e:Ty}{l:List e.den}{cells:Array Value}{t:TypeId}(hh:Holds w (C8 b0 β ob f used) e l cells 0)(hs:l.length*e.size<=cells.size)(hB:l.length<=16777216):
  jF b0 β ob f used w (w.alloc (.cells cells t)) (.narr l.length e l) (.pointer (some ⟨w.heap.size,0,none⟩)) [w.heap.size]:=
 jF.fresh (kQ _ _) (by show _<(w.heap.push _).size;simp) (dD _)
  ⟨rfl,_,rfl,rfl,Ej ⟨dD _,by omega⟩ hs hh (fun b hlt hc=>by rcases hc with h|h;exact h;omega)⟩
theorem HI{P:Program}{R:Type}{E:Env}(hE:jJ P E)(hot:HJ P E){used:Ln}{t:TypeId}{k:AV->Option R}{r:R}{sl:List AV}{tmps:Array Value}(hS:SR b0 β ob w sl tmps f)
  (hk:(match al E.ar t with
   |some (n,e)=>bif Nat.ble n 16777216 then k (.narr n e (List.replicate n e.zero)) else none
   |none=>match E.zeroOf t with
    |some cs=>k (.nbox (E.freshC t cs))
    |none=>bif (al E.ot t).isSome then k (.nbox [.any]) else none)=some r) :
  ∃av v w' bs,k av=some r/\(Instr.alloc t true (.tuple #[])).run P w = .ok v w'/\jF b0 β ob f used w w' av v bs:=by
 split at hk;rename_i n e har;obtain⟨te,i,hu,hte,hi,hsz,hz⟩:=hE.ar _ _ _ har;obtain⟨hble,hk⟩:=bO hk;have hble:=JP hble;have hH:Holds w (C8 b0 β ob f used) e (List.replicate n e.zero) (List.replicate n (zeroV e)).flatten.toArray 0:=sa fun k hk=>by simpa using getElem?_rep hk
 have:=ME (t:=t) hH (by simp[ko]) (by simpa using hble);rw[qz]at this;exact⟨_,_,_,_,hk,by simp[Instr.alloc,zeroValue,typeInfo,hi,hz,qu,Value.cells],this⟩;split at hk;rename_i cs hcs;simp only[Env.zeroOf,LV]at hcs;obtain⟨τ,hτ,rfl⟩:=hcs;obtain⟨i,z,hi,hs,_,hz,hzc,_⟩:=(hE.ty _ _ hτ).info;have hv:=uB (E:=E) (t:=t) (j9 (β:=β) (ob:=ob) (w:=w) (bad:=Av b0 β ob f) τ);have hd:=Iw (used:=used) (t:=t) hS hv rN (by simp);refine⟨_,_,_,_,hk,?_,hd⟩;have:z.cells=(zeroV τ).toArray:=by rw[<-hzc]
 simp[Instr.alloc,zeroValue,typeInfo,hi,hz,qu,this];obtain⟨hsome,hk⟩:=bO hk;obtain⟨i,z,hi,hz,hsz⟩:=hot.zero t hsome;obtain⟨u,hu⟩:∃u,z.cells.toList=[u]:=List.length_eq_one_iff.1 (by simpa using hsz);have hv:Vs (eO β ob w (Av b0 β ob f)) [.any] [u] []:=Vs.cons (b:=[]) rfl .nil;have hd:=Iw (used:=used) (t:=t) hS hv rN (by simp);refine⟨_,_,_,_,hk,?_,hd⟩;have:z.cells=[u].toArray:=by rw[<-hu]
 simp[Instr.alloc,zeroValue,typeInfo,hi,hz,qu,this]
theorem Lw{P:Program}{R:Type}{E:Env}{used:Ln}{t:TypeId}{x:AV}{k:AV->Option R}{r:R}{sl:List AV}{tmps:Array Value}(hS:SR b0 β ob w sl tmps f){v:Value}{bs:Ln}
  (h:c9 β ob w (Av b0 β ob f) x v bs) (hn:bs.Nodup) (hb:∀b∈bs,∃i,i∈used/\b∈f i)
  (hk:Lx E t x k=some r) :
  ∃av v' w' bs,k av=some r/\(Instr.box t v).run P w = .ok v' w'/\jF b0 β ob f used w w' av v' bs:=by
 unfold Lx at hk;cases har:al E.ar t with
 |some me=>
  obtain⟨m,e'⟩:=me;rw[har]at hk;obtain⟨n,e,l,rfl⟩:∃n e l,x = .arr n e l:=by cases x<;>first|exact⟨_,_,_,rfl⟩|(simp at hk)
  simp only at hk;obtain⟨hc,hk⟩:=bO hk;rw[eJ]at hc;have hble:=JP hc.2;obtain⟨rfl,hl,css,rfl,h1,h2⟩:=h;subst hl;have hlen:=nF h1 h2;have hH:=kv (w:=w) (bad:=Av b0 β ob f) (cells:=css.flatten.toArray) (o:=0) h1 h2 (fun j u hj=>by simpa using hj);have:=ME (used:=used) (t:=t) (hH.mono (bad0:=fun _=>False) (bM.refl _ w) (fun _ _ x=>x.elim) (fun b _ hb=>zC hb)) (by simp[hlen]) hble;exact⟨_,_,_,_,hk,by simp[Instr.box,qu,Value.cells],this⟩
 |none=>
  rw[har]at hk;replace hk:(bif !(cellsOf x).isEmpty&&(cellsOf x).all xk then k (.nbox (E.freshC t (cellsOf x))) else none)=some r:=hk;obtain⟨hc,hk⟩:=bO hk;simp only[eJ,uQ]at hc;have hne:cellsOf x≠[]:=by intro he;rw[he]at hc;simp at hc
  have hv:=uB (E:=E) (t:=t) ((ln h hne).imp' fun a u b ha _ hr=>EE hr (hc.2 a ha));have hd:=Iw (used:=used) (t:=t) hS hv hn hb;exact⟨_,_,_,_,hk,by simp[Instr.box,qu],hd⟩
theorem PH{bad:Nat->Prop}{x:AV}{cs:List AV}(hc:J8 x=some cs){v:Value}{bs:Ln}(h:c9 β ob w bad x v bs):∃vs:List Value,v = .agg vs.toArray/\Vs (eO β ob w bad) cs vs bs:=by unfold J8 at hc;split at hc;cases hc;exact h;cases hc;obtain⟨rfl,cs,hv,he⟩:=h;exact⟨cs,hv,jY he⟩;cases hc
theorem Hk{P:Program}{R:Type}{E:Env}(hE:jJ P E)(hot:HJ P E){bad:Nat->Prop}{t:TypeId}{x:AV}{fd:Nat}{k:AV->Option R}{r:R}{v:Value}{bs:Ln}
  (hk:((J8 x).bind fun cs=>sy E t fd fun off ft=>match al E.fs ft with
   |some (n,_)=>k (.agg (cN cs off n))
   |none=>bif E.one ft then match cs[off]? with
    |some c=>k c
    |none=>none else none)=some r) (h:c9 β ob w bad x v bs) :
  ∃av u b',k av=some r/\(Instr.field t v fd).run P w = .ok u w/\c9 β ob w bad av u b'/\b'.Sublist bs:=by
 obtain⟨cs,hc,hk⟩:=bind_some hk;obtain⟨vs,rfl,hvs⟩:=PH hc h;obtain⟨fields,fld,σ,hu,hf,hσ,hk⟩:=wc hE hk;have part:∀(u:Value),(part fld.type vs.toArray fld.offset).run P w = .ok u w->(Instr.field t (.agg vs.toArray) fd).run P w = .ok u w:=by intro u hp;simp[Instr.field,uX hu,hf,asAgg,hp]
 split at hk;rename_i n l hfs;obtain⟨_,τ,_,_,hty,hn,⟨a,b,rfl⟩,_⟩:=hE.fs _ _ _ hfs;have hag:=(hE.ty _ _ hty).agg w;obtain⟨i,z,hi,hs,_⟩:=(hE.ty _ _ hty).info;obtain⟨b',h1,h2⟩:=hvs.sub fld.offset n;refine⟨_,_,b',hk,part (.agg (cN vs fld.offset n).toArray) ?_,⟨_,rfl,h1⟩,h2⟩;simp only[Go.part,u7,hag,u9,sq,sizeOf,typeInfo,P1,hi,Dt,hs,hn];congr 2;apply JK;simp[cN];rename_i hfs;obtain⟨hone,hk⟩:=bO hk;split at hk;rename_i c hcs;have hag:=JS hE hot.agg hone (w:=w);have e1:cs=cs.take fld.offset++(c::cs.drop (fld.offset+1)):=by
  have hlt:fld.offset<cs.length:=by rcases iQ fld.offset cs.length with h|h;exact h;rw[qA h]at hcs;cases hcs
  have:=Io hlt;rw[c6 hlt]at hcs;cases hcs;rw[this,N5]
 have hlt:fld.offset<cs.length:=by rcases iQ fld.offset cs.length with h|h;exact h;rw[qA h]at hcs;cases hcs
 rw[e1]at hvs;obtain⟨v1,v2,b1,b2,rfl,rfl,h1,h2,h3⟩:=hvs.split2;obtain⟨u,vr,b,br,rfl,rfl,h4,h5⟩:=h3.split;have hv1:v1.length=fld.offset:=by rw[h1];simp;omega
 refine⟨_,u,b,hk,part u ?_,zL (pU h4),(Ro b br).trans (Rp b1 _)⟩;have:(v1++u::vr).toArray[fld.offset]?=some u:=by simp only[Pl];rw[vw (by omega),hv1,Q7];rfl
 simp only[Go.part,u7,hag,u9,OR,JH,this,Dt];cases hk
theorem Ha{P:Program}{R:Type}{E:Env}(hE:jJ P E){bad:Nat->Prop}{t:TypeId}{x:AV}{i:Int}{κ:IntKind}{k:AV->Option R}{r:R}{v:Value}{bs:Ln}
  (hk:Aw E t x i k=some r) (h:c9 β ob w bad x v bs) :
  ∃av u,k av=some r/\(Instr.index t v (.int κ i)).run P w = .ok u w/\c9 β ob w bad av u []:=by
 unfold Aw at hk;split at hk;rename_i m e' n e l har;obtain⟨hc,hk1⟩:=bO hk;clear hk;simp only[eJ,ir]at hc;obtain⟨hmn,hee⟩:=hc;have hmn:=xN hmn;subst hmn;subst hee;obtain⟨y,hy,hk⟩:=bind_some hk1;obtain⟨h0,h1,hy⟩:=tC hy;obtain⟨rfl,hl,css,rfl,h2,h3⟩:=h;obtain⟨te,info,hu,hte,_⟩:=hE.ar _ _ _ har;have hH:=kv (w:=w) (bad:=bad) (cells:=css.flatten.toArray) (o:=0) h2 h3 (fun j u hj=>by simpa using hj);obtain⟨ds,he,hd⟩:=hH _ y hy;have hlen:=dK he;have hag:=hte.agg w;obtain⟨ti,z,hi,hs,_⟩:=hte.info;have hfl:=nF h2 h3;have hroom:i.toNat*e'.size+e'.size<=css.flatten.length:=by have:(i.toNat+1)*e'.size<=l.length*e'.size:=yk _ h1;rw[Ad]at this;omega
 have hpart:∃u,(Go.part te css.flatten.toArray (i.toNat*e'.size)).run P w = .ok u w/\kj e' u ds:=by
  have hex:(css.flatten.toArray.extract (i.toNat*e'.size) (i.toNat*e'.size+e'.size)).toList=ds:=by apply LQ;intro j;rcases iQ j ds.length with hj|hj;have:=hd j _ (c6 hj);rw[c6 hj];simp only[Qa,Array.getElem?_extract];rw[aa (by simp only[P6];omega)];rw[Dk]at this;exact this;rw[qA hj,qA];simp only[OT,Array.size_extract,P6];omega
  cases e' with
  |pair a b=>refine⟨.agg ds.toArray,?_,rfl⟩;simp only[Go.part,u7,hag,u9,sq,sizeOf,typeInfo,P1,hi,Dt,hs];congr 2;apply JK;rw[hex]
  |_=>
   obtain⟨u,rfl⟩:∃u,ds=[u]:=by
    match ds,hlen with
    |[u],_=>exact⟨u,rfl⟩
   have:=hd 0 u rfl;simp only[Dk,Ds]at this;refine⟨u,?_,rfl⟩;simp only[Go.part,u7,hag,u9,OR,JH,this,Dt]
 obtain⟨u,hp,hrep⟩:=hpart;refine⟨.d e' y,u,hk,?_,⟨rfl,ds,hrep,he⟩⟩;have hi':i<(m:Int):=by omega
 simp[Instr.index,asIntOf,uX hu,h0,hi',dY hte,hp];cases hk
theorem gE.some_u{P:Program}{t:TypeId}{τ:Ty}(h:gE P t τ):(P.underlying t).isSome=true:=by
 cases τ with
 |int κ=>rw[h.intU];rfl
 |bool=>rw[h.boolU];rfl
 |list e=>obtain⟨te,hu,_⟩:=h.listU;rw[hu];rfl
 |pair a b=>obtain⟨fs,hu,_⟩:=h.pairU;rw[hu];rfl
theorem DG{P:Program}{R:Type}{E:Env}(hE:jJ P E){bad:Nat->Prop}{s t:TypeId}{x:AV}{k:AV->Option R}{r:R}{v:Value}{bs:Ln}
  (hk:(match al E.ty s,al E.ty t with
   |some _,some (.int κ)=>ux x fun _ n=>k (.d (.int κ) (κ.wrap n))
   |_,_=>none)=some r) (h:c9 β ob w bad x v bs) :
  ∃av u,k av=some r/\(convert s t v).run P w = .ok u w/\(∀bad',c9 β ob w bad' av u []):=by
 split at hk;rename_i τ κ hs ht;obtain⟨κ',n,rfl,hk⟩:=gH hk;obtain⟨rfl,_⟩:=cP h;have hu:=(hE.ty _ _ ht).intU;obtain⟨d,hd⟩:=Qq.mp (hE.ty _ _ hs).some_u;exact⟨_,_,hk,by simp[convert,uX hd,uX hu,Conv.intToInt],fun _=>iy _ _⟩;cases hk
theorem IK{P:Program}{R:Type}{E:Env}(hE:jJ P E){bad:Nat->Prop}{ty:TypeId}{t:TypeId}{ts:Array TypeId}(h0:ts[0]?=some t){e:Ty}(he:jw E t=some e){x:AV}{k:Int->Option R}{r:R}{v:Value}{bs:Ln}
  (hk:G5 ob x k=some r) (h:c9 β ob w bad x v bs) :
  ∃n:Int,k n=some r/\(Builtin.len_ ts ty #[v]).run P w = .ok (.int .i64 n) w:=by
 obtain⟨A,n,c,hk,rfl⟩:=Ef hk h;obtain⟨te,hu,_⟩:=(hE.ty _ _ (fT he)).listU;exact⟨_,hk,by simp[Builtin.len_,h0,uX hu,goInt]⟩
theorem wF{α:Type}{l m r:List α}(h:app l m=some r):r=l++m/\l.length+m.length<=mR:=by unfold app at h;split at h;cases h;exact⟨rfl,by assumption⟩;cases h
theorem LC{P:Program}{R:Type}{E:Env}(hE:jJ P E){sl:List AV}{tmps:Array Value}(hS:SR b0 β ob w sl tmps f){used:Ln}{ty t:TypeId}{e:Ty}(he:jw E t=some e){x:AV}{ys:List e.den}{k:AV->Option R}{r:R}{vx vy:Value}{bx:Ln}
  (hk:LD e x ys k=some r) (h:c9 β ob w (Av b0 β ob f) x vx bx) (hn:bx.Nodup) (hb:∀b∈bx,∃i,i∈used/\b∈f i) (hy:Reads w (Av b0 β ob f) e ys vy) :
  ∃av u w' bs,k av=some r/\(Builtin.append_ #[t,t] ty #[vx,vy]).run P w = .ok u w'/\jF b0 β ob f used w w' av u bs:=by
 obtain⟨te,hu,hte⟩:=(hE.ty _ _ (fT he)).listU;have grow:∀{l m:List e.den} {A:Option Addr} {c:Nat},app l ys=some m->Reads w (Av b0 β ob f) e l vx->vx = .slice A l.length c->(A=none->c=0)->c<l.length+ys.length->k (.new e m)=some r ->
   ∃av u w' bs,k av=some r/\(Builtin.append_ #[t,t] ty #[vx,vy]).run P w = .ok u w'/\jF b0 β ob f used w w' av u bs:=by
  intro l m A c hm hx hvx hA hroom hk;obtain⟨rfl,hlim⟩:=wF hm;obtain⟨u,w',hr,hs,hsz,hnew⟩:=C9 (ty:=ty) hu hte hx hvx hy hA hroom hlim;refine⟨_,u,w',[w.heap.size],hk,hr,jF.fresh hs (by omega) (dD _) ?_⟩;exact hnew _ fun b hlt hc=>by rcases hc with h|h;exact zC h;omega
 have hnil:(∃A,vx = .slice A 0 0)->∀{m:List e.den},app [] ys=some m->k (.new e m)=some r->bx=[] ->
   ∃av u w' bs,k av=some r/\(Builtin.append_ #[t,t] ty #[vx,vy]).run P w = .ok u w'/\jF b0 β ob f used w w' av u bs:=by
  rintro⟨A,hvx⟩ m hm hkm hbx;cases hys:ys with
  |cons y ys'=>refine grow hm ⟨A,0,hvx,dD _,fun _=>rfl,fun a _ i x hx=>by simp at hx⟩ hvx (fun _=>rfl) ?_ hkm;rw[hys];simp
  |nil=>
   subst hys;obtain⟨rfl,_⟩:=wF hm;obtain⟨A2,c2,css2,rfl,g1,g2,g3,g4,g5⟩:=pc hy;subst hvx;obtain⟨i,z,hi,hs,_⟩:=hte.info;refine⟨_,.slice A 0 0,w,[],hkm,?_,jF.stay (.inl ⟨⟨A,rfl⟩,rfl,rfl⟩)⟩;have hst:∀a,(storeCells a [] 0:Sem Unit).run P w = .ok () w:=fun a=>by simp[storeCells]
   have hf:(Builtin.firstCells i.size 0 (.slice A2 0 c2)).run P w = .ok #[] w:=by
    cases A2 with
    |none=>exact Q6 w i.size 0 0 c2
    |some a=>simpa using Qr (P:=P) w i.size 0 a 0 c2 [] (by simp) (by simp)
   cases A<;>simp[Builtin.append_,uX hu,sizeOf,typeInfo,hi,Builtin.lenOf,hf,hst]
 unfold LD at hk;split at hk;obtain⟨m,hm,hk1⟩:=bind_some hk;obtain⟨hb0,hv⟩:=h;exact hnil ⟨_,hv⟩ hm hk1 hb0;split at hk;rename_i σ l hσ;subst hσ;obtain⟨m,hm,hk1⟩:=bind_some hk;clear hk;rcases h with⟨hv,hl0,hb0⟩|⟨b,o,c,hb0,hv,hr⟩;exact hnil hv (hl0▸hm) hk1 hb0;subst hb0;subst hv;obtain⟨rfl,hlim⟩:=wF hm;obtain⟨i0,hi0,hbi⟩:=hb b (by simp);have hbad:Av b0 β ob f b:=.inr (.inr ⟨i0,hbi⟩);rcases iQ c (l.length+ys.length) with hroom|hroom;have hx:Reads w (Av b0 β ob f) σ l (.slice (some ⟨b,o,none⟩) l.length c):=(D8 (bs:=[b]) (.inr ⟨b,o,c,rfl,rfl,hr⟩)).1;exact grow hm hx rfl (fun h=>by cases h) hroom hk1;obtain⟨w',hrun,hs,hrow,_⟩:=HE (ty:=ty) hu hte hr hbad hy hroom;refine⟨_,_,w',[b],hk1,hrun,?_,?_,by simp,?_⟩;exact hs.mono fun c _ hc=>⟨i0,hi0,hc▸hbi⟩;refine .inr ⟨b,o,c,rfl,rfl,?_⟩;exact hrow.mono (bad0:=fun _=>False) (bM.refl _ w') (fun _ _ x=>x.elim) (fun c _ hc=>by
  rcases hc with h|h|⟨i,_,h⟩|h;exact .inl h;exact .inr (.inl h);exact .inr (.inr ⟨i,h⟩);have:c=b:=by simpa using h
  rw[this];exact hbad) (fun x=>x)
 intro c hc;have:c=b:=by simpa using hc
 subst this;exact⟨uY (hS.fresh i0 c hbi).1 hs.1,.inl ⟨i0,hi0,hbi⟩⟩;cases hk;split at hk;cases hk;rename_i y ys';split at hk;rename_i σ l hσ;subst hσ;obtain⟨m,hm,hk1⟩:=bind_some hk;obtain⟨hb0,A,hv,he'⟩:=h;subst hv;have hA:A=none->σ.length=0:=by obtain⟨A',c',hv,hlc,hz,_⟩:=he';simp only[Im,Ko,Dl]at hv;intro ha;rw[hv.2.2];exact hz (hv.1▸ha)
 exact grow hm (tF he') rfl hA (by simp) hk1;cases hk;cases hk
end
end
section
section
variable {b0:Nat->Prop} {β:bd} {ob:cW} {w:World} {f:Nat->Ln}
theorem qD{o:Oper}{t:Nat}:t∈de o↔Operand.tmp t∈o.op.operands:=by unfold de;rw[Qm];constructor;rintro⟨x,hx,h⟩;cases x<;>simp at h;subst h;simpa using hx;intro h;exact⟨.tmp t,by simpa using h,rfl⟩
theorem OV{sl:List AV}{a:Act}(h:SR b0 β ob w sl a.tmps f){o:Oper}{x:Operand}(hx:x∈o.op.operands):
  ∃bs,c9 β ob w (Av b0 β ob f) (bk sl x) (a.eval x) bs/\bs.Nodup/\(∀b∈bs,∃i,i∈de o/\b∈f i):=by
 obtain⟨bs,h1,h2,h3,_⟩:=uZ h x;refine⟨bs,h1,h2,fun b hb=>?_⟩;obtain⟨t,rfl,hb⟩:=h3 b hb;exact⟨t,qD.2 hx,hb⟩
theorem mN:∀{l:Ln},qK l=true->l.Nodup
 |[],_=>rN
 |x::r,h=>by simp only[qK,eJ,Ql,HR]at h;refine zI.2 ⟨fun hx=>?_,mN h.2⟩;exact h.1 x hx (Mu x)
theorem partsOf{sl:List AV}{a:Act}(h:SR b0 β ob w sl a.tmps f):∀(ps:List (Nat×Operand)),(ps.filterMap fun p=>match p.2 with|.tmp t=>some t|_=>none).Nodup ->
  ∃bs,yh (c9 β ob w (Av b0 β ob f)) (ps.map fun p=>(p.1,bk sl p.2)) (ps.map fun p=>(p.1,a.eval p.2)) bs/\bs.Nodup/\(∀b∈bs,∃p t,p∈ps/\p.2 = .tmp t/\b∈f t)
 |[],_=>⟨[],.nil,rN,by simp⟩
 |p::ps,hn=>by
  obtain⟨b1,h1,h2,h3,h4⟩:=uZ h p.2;have hn':(ps.filterMap fun p=>match p.2 with|.tmp t=>some t|_=>none).Nodup:=by rw[P9]at hn;split at hn;exact hn;exact(zI.1 hn).2
  obtain⟨b2,g1,g2,g3⟩:=partsOf h ps hn';refine⟨b1++b2,.cons h1 g1,D3.2 ⟨h2,g2,fun b hb c hc he=>?_⟩,fun b hb=>?_⟩;subst he;obtain⟨t,ht,hbt⟩:=h3 b hb;obtain⟨q,s,hq,hs,hbs⟩:=g3 b hc;have:=h.disj t s b hbt hbs;subst this;rw[P9,ht]at hn;exact(zI.1 hn).1 (Qm.2 ⟨q,hq,by rw[hs]⟩);rcases jR.1 hb with hb|hb;obtain⟨t,ht,hbt⟩:=h3 b hb;exact⟨p,t,by simp,ht,hbt⟩;obtain⟨q,t,hq,hs,hbt⟩:=g3 b hb;exact⟨q,t,by simp[hq],hs,hbt⟩
theorem Is{sl:List AV}{a:Act}(h:SR b0 β ob w sl a.tmps f){used:Ln}:∀(ps:List (Nat×Operand)),(∀p∈ps,∀t,p.2 = .tmp t->t∈used) ->
  Dd (fun x v=>∃bs,c9 β ob w (Av b0 β ob f) x v bs/\∀b,b∈bs->¬C8 b0 β ob f used b) (ps.map fun p=>(p.1,bk sl p.2)) (ps.map fun p=>(p.1,a.eval p.2))
 |[],_=>.nil
 |p::ps,hu=>by obtain⟨b1,h1,h2,h3,h4⟩:=uZ h p.2;refine .cons ⟨b1,h1,fun b hb=>?_⟩ (Is h ps fun q hq=>hu q (by simp[hq]));obtain⟨t,ht,hbt⟩:=h3 b hb;exact Ey h (hu p (by simp) t ht) hbt
theorem Vs.get{r:AV->Value->Ln->Prop}:∀{as:List AV} {vs:List Value} {bs:Ln},Vs r as vs bs->∀{i:Nat} {a:AV},as[i]?=some a ->
  ∃v b,vs[i]?=some v/\r a v b/\b.Sublist bs:=by
 intro as vs bs h
 induction h with
 |nil=>intro i a hi;simp at hi
 |cons h1 _ ih=>
  intro i a hi;cases i with
  |zero=>simp at hi;subst hi;exact⟨_,_,rfl,h1,Ro _ _⟩
  |succ i=>obtain⟨v,b,h2,h3,h4⟩:=ih (i:=i) (a:=a) (by simpa using hi);exact⟨v,b,by simpa using h2,h3,h4.trans (Rp _ _)⟩
theorem CU{bad:Nat->Prop}{ρ:Operand->AV}{ρv:Operand->Value}:∀{xs:List Operand},(∀x∈xs,∃bs,c9 β ob w bad (ρ x) (ρv x) bs)->(xs.map ρ).all nG=true->Vs (eO β ob w bad) (xs.map ρ) (xs.map ρv) []
 |[],_,_=>.nil
 |x::xs,h,hf=>by
  simp only[xe,OP,eJ]at hf;obtain⟨bs,hx⟩:=h x (by simp);have h0:eO β ob w bad (ρ x) (ρv x) []:=by
   have hf1:=hf.1;generalize ρ x=y at hx hf1;cases y<;>first
    |(simp[nG]at hf1;done)
    |(have hb:=hx.1;subst hb;exact hx)
    |(have hb:bs=[]:=hx;subst hb;exact hx)
    |(obtain⟨h1,h2⟩:=hx;subst h2;exact⟨h1,rfl⟩)
  exact .cons (b:=[]) h0 (CU (fun y hy=>h y (by simp[hy])) hf.2)
theorem Ir{P:Program}{R:Type}{E:Env}(hE:jJ P E)(hot:HJ P E){C:bC}{sl:List AV}{a:Act}(hS:SR b0 β ob w sl a.tmps f){o:Oper}{k:AV->Option R}{r:R}
  (hk:ec E C ob (bk sl) o k=some r) (hnc:∀c,o.op = .call c->∀g,c.callee ≠ .value g) :
  ∃av v w' bs,k av=some r/\(execOp a.eval o).run P w = .ok (.value v) w'/\jF b0 β ob f (de o) w w' av v bs:=by
 have opn:∀{x:Operand},x∈o.op.operands->∃bs,c9 β ob w (Av b0 β ob f) (bk sl x) (a.eval x) bs/\bs.Nodup/\(∀b∈bs,∃i,i∈de o/\b∈f i):=fun hx=>OV hS hx;obtain⟨dst,op,type,pos,after,guard⟩:=o;have stay:∀{av:AV} {v:Value},k av=some r->(execOp a.eval ⟨dst,op,type,pos,after,guard⟩).run P w = .ok (.value v) w->c9 β ob w (Av b0 β ob f) av v [] ->
   ∃av v w' bs,k av=some r/\(execOp a.eval ⟨dst,op,type,pos,after,guard⟩).run P w = .ok (.value v) w'/\jF b0 β ob f (de ⟨dst,op,type,pos,after,guard⟩) w w' av v bs:=
  fun h1 h2 h3=>⟨_,_,w,[],h1,h2,jF.stay h3⟩
 unfold ec at hk;cases op with
 |move x=>obtain⟨bs,h1,h2,h3⟩:=opn (x:=x) (by simp[Op.operands]);exact⟨_,_,w,bs,hk,by simp[execOp],jF.pass hS (AX h1) h2 h3⟩
 |assign x=>obtain⟨bs,h1,h2,h3⟩:=opn (x:=x) (by simp[Op.operands]);exact⟨_,_,w,bs,hk,by simp[execOp],jF.pass hS (AX h1) h2 h3⟩
 |pick c x y=>
  obtain⟨bs,h1,h2,h3⟩:=opn (x:=c) (by simp[Op.operands]);obtain⟨b,hb,hk⟩:=yd hk;rw[hb]at h1;obtain⟨hc,_⟩:=iG h1;cases b with
  |true=>obtain⟨bs,h1,h2,h3⟩:=opn (x:=x) (by simp[Op.operands]);exact⟨_,_,w,bs,hk,by simp[execOp,hc,asBool],jF.pass hS h1 h2 h3⟩
  |false=>obtain⟨bs,h1,h2,h3⟩:=opn (x:=y) (by simp[Op.operands]);exact⟨_,_,w,bs,hk,by simp[execOp,hc,asBool],jF.pass hS h1 h2 h3⟩
 |alloc t=>obtain⟨av,v,w',bs,h1,h2,h3⟩:=HI hE hot (used:=de ⟨dst,.alloc t,type,pos,after,guard⟩) hS hk;exact⟨av,v,w',bs,h1,by simp[execOp,h2],h3⟩
 |box t x=>obtain⟨bs,h1,h2,h3⟩:=opn (x:=x) (by simp[Op.operands]);obtain⟨av,v,w',bs,g1,g2,g3⟩:=Lw (P:=P) hS h1 h2 h3 hk;exact⟨av,v,w',bs,g1,by simp[execOp,g2],g3⟩
 |build t ps=>
  obtain⟨hn,hk⟩:=bO hk;have hn:=mN hn;unfold CZ at hk;split at hk;rename_i n e har;have hp:=Is hS (used:=de ⟨dst,.build t ps,type,pos,after,guard⟩) ps.toList fun p hp s hs=>qD.2 (by simp only[Op.operands,Rj,jC];exact⟨p,hp,hs⟩)
  obtain⟨av,u,h1,h2,h3⟩:=Hx hE hS.obs (bad':=C8 b0 β ob f (de ⟨dst,.build t ps,type,pos,after,guard⟩)) (fun b _ h=>zC h) har (vs:=ps.map fun p=>(p.1,a.eval p.2)) hk (by simpa using hp);refine⟨av,u,w,[],h1,by simp[execOp,h2],?_⟩;exact⟨bM.refl _ _,fY (bad0:=fun _=>False) (bM.refl _ w) (fun _ _ x=>x.elim) (fun b _ hc=>by rcases hc with h|h|h|h;exact .inl h;exact .inr (.inl h);exact .inr (.inr h);cases h) (fun _ _ x=>x) h3,rN,by simp⟩
  split at hk;rename_i n fl hfs;obtain⟨bs,hp,h2,h3⟩:=partsOf hS ps.toList hn;obtain⟨av,u,g1,g2,g3⟩:=FT hE hot (P:=P) hfs (vs:=ps.map fun p=>(p.1,a.eval p.2)) hk (by simpa using hp);refine⟨av,u,w,bs,g1,by simp[execOp,g2],jF.pass hS g3 h2 fun b hb=>?_⟩;obtain⟨p,s,hp,hs,hbs⟩:=h3 b hb;exact⟨s,qD.2 (by simp only[Op.operands,Rj,jC];exact⟨p,hp,hs⟩),hbs⟩;cases hk
 |buildSlice t n ps=>
  dsimp only at hk;split at hk;rename_i e he;obtain⟨hn,hk⟩:=bO hk;have hp:=Is hS (used:=de ⟨dst,.buildSlice t n ps,type,pos,after,guard⟩) ps.toList fun p hp s hs=>qD.2 (by simp only[Op.operands,Rj,jC];exact⟨p,hp,hs⟩)
  obtain⟨av,u,w',h1,h2,h3⟩:=AK hE hS he (JP hn) (vs:=ps.map fun p=>(p.1,a.eval p.2)) hk (by simpa using hp);exact⟨av,u,w',_,h1,by simp[execOp,h2],h3⟩;cases hk
 |load t x=>obtain⟨bs,h1,h2,h3⟩:=opn (x:=x) (by simp[Op.operands]);obtain⟨av,u,g1,g2,g3⟩:=Cr hE hot.agg hS.obs (fun b h=>.inr (.inl h)) hk h1;exact stay g1 (by simp[execOp,g2]) g3
 |nilCheck x=>obtain⟨bs,h1,h2,h3⟩:=opn (x:=x) (by simp[Op.operands]);dsimp only at hk;split at hk;rename_i hx;rw[hx]at h1;have h1':=h1;obtain⟨rfl,b,c,cs,_,_,hv⟩:=h1;exact stay hk (by simp[execOp,hv];rfl) (by rw[<-hv];exact h1');rename_i hx;rw[hx]at h1;have h1':=h1;obtain⟨rfl,τ,l,b,c,_,_,_,hv⟩:=h1;exact stay hk (by simp[execOp,hv];rfl) (by rw[<-hv];exact h1');rename_i hx;rw[hx]at h1;have h1':=h1;obtain⟨rfl,ad,cs,hv,_⟩:=h1;exact stay hk (by simp[execOp,hv];rfl) (by rw[<-hv];exact h1');rename_i hx;rw[hx]at h1;have h1':=h1;obtain⟨rfl,τ,l,b,o,c,_,_,hv⟩:=h1;exact stay hk (by simp[execOp,hv];rfl) (by rw[<-hv];exact h1');cases hk
 |binOp bop t x y yt=>obtain⟨b1,h1,_,_⟩:=opn (x:=x) (by simp[Op.operands]);obtain⟨b2,h2,_,_⟩:=opn (x:=y) (by simp[Op.operands]);obtain⟨av,z,g1,g2,g3⟩:=Ex (P:=P) (ox:=x) (oy:=y) hk hE h1 h2;refine stay g1 ?_ (g3 _);have:(execOp a.eval ⟨dst,.binOp bop t x y yt,type,pos,after,guard⟩)=(do pure (.value (<-(do eqGuard bop t x y (a.eval x) (a.eval y);binOp bop t (a.eval x) (a.eval y):Sem Value))):Sem Next):=rfl;rw[this,u7,g2];rfl
 |unOp uop t x=>obtain⟨bs,h1,_,_⟩:=opn (x:=x) (by simp[Op.operands]);obtain⟨av,u,g1,g2,g3⟩:=L7 (P:=P) hk h1;exact stay g1 (by simp[execOp,g2]) (g3 _)
 |convert s t x=>obtain⟨bs,h1,_,_⟩:=opn (x:=x) (by simp[Op.operands]);obtain⟨av,u,g1,g2,g3⟩:=DG hE hk h1;exact stay g1 (by simp[execOp,g2]) (g3 _)
 |makeFunc fn first caps=>
  cases fn with
  |func g=>
   obtain⟨hc,hk1⟩:=bO hk;clear hk;simp only[eJ]at hc;have hcaps:=CU (β:=β) (ob:=ob) (w:=w) (bad:=Av b0 β ob f) (ρ:=bk sl) (ρv:=a.eval) (xs:=caps.toList) (fun x hx=>by obtain⟨bs,h,_⟩:=opn (x:=x) (by simp[Op.operands];exact .inr (by simpa using hx));exact⟨bs,h⟩) hc.2
   have hf:first = #[]:=by simpa using hc.1
   subst hf;refine stay hk1 (v:=.func (.func g) #[] (caps.toList.map a.eval).toArray) (by simp only[execOp,Instr.makeFunc,Array.map_empty,u7,Dt,u9];congr 3;apply JK;simp) (show c9 β ob w _ (.fn g (caps.toList.map (bk sl))) _ [] from⟨rfl,_,rfl,hcaps⟩)
  |_=>cases hk
 |makeSlice t n c=>dsimp only at hk;split at hk;rename_i e he;obtain⟨κ,m,hn,hk⟩:=gH hk;obtain⟨κ',m',hc,hk⟩:=gH hk;obtain⟨b1,h1,_,_⟩:=opn (x:=n) (by simp[Op.operands]);obtain⟨b2,h2,_,_⟩:=opn (x:=c) (by simp[Op.operands]);rw[hn]at h1;rw[hc]at h2;obtain⟨hv1,_⟩:=cP h1;obtain⟨hv2,_⟩:=cP h2;obtain⟨l,hl,hk1⟩:=bind_some hk;clear hk;by_cases heq:m=m';subst heq;rw[aa rfl]at hk1;obtain⟨u,w',g1,g2⟩:=IE (P:=P) (κ:=κ) (κ':=κ') (b0:=b0) (β:=β) (ob:=ob) (w:=w) (f:=f) hE (used:=de ⟨dst,.makeSlice t n c,type,pos,after,guard⟩) he hl hk1;exact⟨_,u,w',_,hk1,by simp[execOp,hv1,hv2,g1],g2⟩;rw[ab heq]at hk1;cases hk1;cases hk
 |slice t x lo hi mx=>
  obtain⟨bs,h1,_,_⟩:=opn (x:=x) (by simp[Op.operands]);have opt:∀(y:Option Operand),(∀z,y=some z->z∈(Op.slice t x lo hi mx).operands) ->
    ((y.map (bk sl))=none/\(y.map a.eval)=none)\/∃x u bs,y.map (bk sl)=some x/\y.map a.eval=some u/\c9 β ob w (Av b0 β ob f) x u bs:=by
   intro y hy;cases y with
   |none=>exact .inl ⟨rfl,rfl⟩
   |some z=>obtain⟨bs,h,_⟩:=opn (hy z rfl);exact .inr ⟨_,_,bs,rfl,rfl,h⟩
  obtain⟨av,u,g1,g2,g3⟩:=Gu hE hS.obs (P:=P) hk h1 (opt lo (by intro z hz;subst hz;simp[Op.operands])) (opt hi (by intro z hz;subst hz;simp[Op.operands])) (opt mx (by intro z hz;subst hz;simp[Op.operands]));exact stay g1 (by simp[execOp,g2]) g3
 |fieldAddr t x fd=>obtain⟨bs,h1,_,_⟩:=opn (x:=x) (by simp[Op.operands]);obtain⟨av,u,g1,g2,g3⟩:=Hm hE hk h1;exact stay g1 (by simp[execOp,g2]) g3
 |field t x fd=>obtain⟨bs,h1,h2,h3⟩:=opn (x:=x) (by simp[Op.operands]);obtain⟨av,u,b',g1,g2,g3,g4⟩:=Hk hE hot (P:=P) hk h1;exact⟨av,u,w,b',g1,by simp[execOp,g2],jF.pass hS g3 (g4.nodup h2) fun b hb=>h3 b (g4.subset hb)⟩
 |indexAddr t x i=>obtain⟨bs,h1,_,_⟩:=opn (x:=x) (by simp[Op.operands]);obtain⟨b2,h2,_,_⟩:=opn (x:=i) (by simp[Op.operands]);obtain⟨κ,n,hn,hk⟩:=gH hk;rw[hn]at h2;obtain⟨hv,_⟩:=cP h2;obtain⟨av,u,g1,g2,g3⟩:=KY hE hS.obs (P:=P) (κ:=κ) hk h1;exact stay g1 (by simp[execOp,hv,g2]) g3
 |index t x i=>obtain⟨bs,h1,_,_⟩:=opn (x:=x) (by simp[Op.operands]);obtain⟨b2,h2,_,_⟩:=opn (x:=i) (by simp[Op.operands]);obtain⟨κ,n,hn,hk⟩:=gH hk;rw[hn]at h2;obtain⟨hv,_⟩:=cP h2;obtain⟨av,u,g1,g2,g3⟩:=Ha hE (P:=P) (κ:=κ) hk h1;exact stay g1 (by simp[execOp,hv,g2]) g3
 |extract x i=>obtain⟨bs,h1,h2,h3⟩:=opn (x:=x) (by simp[Op.operands]);dsimp only at hk;split at hk;rename_i vs hx;split at hk;rename_i y hy;rw[hx]at h1;obtain⟨us,hv,hvs⟩:=h1;obtain⟨u,b',g1,g2,g3⟩:=hvs.get hy;exact⟨y,u,w,b',hk,by simp[execOp,Instr.extract,hv,g1],jF.pass hS (zL g2) (g3.nodup h2) fun b hb=>h3 b (g3.subset hb)⟩;cases hk;cases hk
 |call c=>
  obtain⟨callee,args,ts⟩:=c;cases callee with
  |value g=>exact absurd rfl (hnc _ rfl g)
  |invoke x m=>cases hk
  |builtin b=>
   have arg:∀{x:Operand},x∈args->∃bs,c9 β ob w (Av b0 β ob f) (bk sl x) (a.eval x) bs/\bs.Nodup/\(∀b'∈bs,∃i,i∈de ⟨dst,.call ⟨.builtin b,args,ts⟩,type,pos,after,guard⟩/\b'∈f i):=
    fun hx=>opn (by simp[Op.operands,Call.operands,hx])
   dsimp only at hk;unfold wz at hk;split at hk;rename_i v hargs;obtain⟨x,rfl,rfl⟩:∃x,args = #[x]/\bk sl x=v:=by
    match args,hargs with
    |⟨[x]⟩,h=>exact⟨x,rfl,by simpa using h⟩
    |⟨[]⟩,h=>simp at h
    |⟨_::_::_⟩,h=>simp at h
   obtain⟨bs,h1,_,_⟩:=arg (x:=x) (by simp);split at hk;rename_i e he;obtain⟨t,ht,he⟩:=bind_some he;obtain⟨n,g1,g2⟩:=IK (ty:=type) hE ht he hk h1 (P:=P);exact stay g1 (by simp[execOp,resolve,invoke,builtin,g2]) (iy _ _);cases hk;rename_i v u hargs;obtain⟨x,y,rfl,rfl,rfl⟩:∃x y,args = #[x,y]/\bk sl x=v/\bk sl y=u:=by
    match args,hargs with
    |⟨[x,y]⟩,h=>simp at h;exact⟨x,y,rfl,h.1,h.2⟩
    |⟨[]⟩,h=>simp at h
    |⟨[_]⟩,h=>simp at h
    |⟨_::_::_::_⟩,h=>simp at h
   obtain⟨b1,h1,h2,h3⟩:=arg (x:=x) (by simp);obtain⟨b2,g1,_,_⟩:=arg (x:=y) (by simp);split at hk;rename_i t t' hts;obtain⟨htt,hk1⟩:=bO hk;clear hk;have htt:=xN htt;subst htt;have hts':ts = #[t,t]:=by apply JK;simpa using hts
   subst hts';split at hk1;rename_i e he;obtain⟨l,hk2,hr,_⟩:=pq hk1 hS.obs g1;obtain⟨av,u,w',bs,g2,g3,g4⟩:=LC hE (P:=P) (ty:=type) hS he hk2 h1 h2 h3 hr;exact⟨av,u,w',bs,g2,by simp[execOp,resolve,invoke,builtin,g3],g4⟩;cases hk1;cases hk;rename_i v u hargs;obtain⟨x,y,rfl,rfl,rfl⟩:∃x y,args = #[x,y]/\bk sl x=v/\bk sl y=u:=by
    match args,hargs with
    |⟨[x,y]⟩,h=>simp at h;exact⟨x,y,rfl,h.1,h.2⟩
    |⟨[]⟩,h=>simp at h
    |⟨[_]⟩,h=>simp at h
    |⟨_::_::_::_⟩,h=>simp at h
   obtain⟨κ,n,hn,hk⟩:=gH hk;obtain⟨κ',m,hm,hk⟩:=gH hk;obtain⟨b1,h1,_,_⟩:=arg (x:=x) (by simp);obtain⟨b2,g1,_,_⟩:=arg (x:=y) (by simp);rw[hn]at h1;rw[hm]at g1;obtain⟨hv1,_⟩:=cP h1;obtain⟨hv2,_⟩:=cP g1;exact stay hk (by simp[execOp,resolve,invoke,builtin,Builtin.min_,Builtin.min2,hv1,hv2]) (iy _ _);rename_i v u hargs;obtain⟨x,y,rfl,rfl,rfl⟩:∃x y,args = #[x,y]/\bk sl x=v/\bk sl y=u:=by
    match args,hargs with
    |⟨[x,y]⟩,h=>simp at h;exact⟨x,y,rfl,h.1,h.2⟩
    |⟨[]⟩,h=>simp at h
    |⟨[_]⟩,h=>simp at h
    |⟨_::_::_::_⟩,h=>simp at h
   obtain⟨κ,n,hn,hk⟩:=gH hk;obtain⟨κ',m,hm,hk⟩:=gH hk;obtain⟨b1,h1,_,_⟩:=arg (x:=x) (by simp);obtain⟨b2,g1,_,_⟩:=arg (x:=y) (by simp);rw[hn]at h1;rw[hm]at g1;obtain⟨hv1,_⟩:=cP h1;obtain⟨hv2,_⟩:=cP g1;exact stay hk (by simp[execOp,resolve,invoke,builtin,Builtin.max_,Builtin.max2,hv1,hv2]) (iy _ _);cases hk
 |_=>cases hk
end
end
end Go.Proofs.YtfjpfjnepdhnaaaGreat.R

