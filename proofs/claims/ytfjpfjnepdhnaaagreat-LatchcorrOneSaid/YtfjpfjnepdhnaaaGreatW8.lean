/- . -/
import Derived.Test.YtfjpfjnepdhnaaaGreatW7
import Derived.Test.YtfjpfjnepdhnaaaGreatS
import Derived.Lib.OwnBridge
import Derived.Shelf.SlicesE.DeleteFunc
namespace Go.Proofs
open Go.Shelf
set_option linter.unusedVariables false
set_option linter.unusedSimpArgs false
section
def YtfjpfjnepdhnaaaGreat.layDelF_ren:Go.Shelf.Ren:=⟨fun|10=>54|6=>73|n=>n,fun|22=>24|23=>3|25=>29|3=>3|4=>4|0=>0|n=>n,fun|n=>n⟩
theorem YtfjpfjnepdhnaaaGreat.layDelF:Go.Proofs.SlLaysH.n10 Tryz.prog YtfjpfjnepdhnaaaGreat.layDelF_ren:={
 mixed:=by kernel_rfl
 f6:=⟨Tryz.f73.name,by decide,Tryz.func73.trans (congrArg some (by kernel_rfl))⟩
 f10:=⟨Tryz.f54.name,by decide,Tryz.func54.trans (congrArg some (by kernel_rfl))⟩
 t0:=Tryz.underlying0
 a0:=Tryz.isAgg0
 z0:=Tryz.sizeOf0
 v0:=Tryz.zeroValue0
 t3:=Tryz.underlying3
 a3:=Tryz.isAgg3
 z3:=Tryz.sizeOf3
 v3:=Tryz.zeroValue3
 t4:=Tryz.underlying4
 a4:=Tryz.isAgg4
 z4:=Tryz.sizeOf4
 v4:=Tryz.zeroValue4
 t22:=Tryz.underlying24
 a22:=Tryz.isAgg24
 z22:=Tryz.sizeOf24
 v22:=Tryz.zeroValue24
 a23:=Tryz.isAgg3
 z23:=Tryz.sizeOf3
 t25:=Tryz.underlying29
 a25:=Tryz.isAgg29
 z25:=Tryz.sizeOf29
 v25:=Tryz.zeroValue29 }
end
end Go.Proofs
namespace Go.Proofs.YtfjpfjnepdhnaaaGreat
open Go Go.RowKit Go.Proofs.YtfjpfjnepdhnaaaGreat.R
set_option linter.unusedVariables false
set_option linter.unusedSimpArgs false
section
set_option maxRecDepth 1000000 in
set_option maxHeartbeats 4000000 in
theorem keep_ok(X C k:Nat)(L Ls:LP)(A B:Option Addr)(c d:Nat)(g p:Int×Int)(w:World)(hL:L.length<=1000)(hLs:Ls.length<=1000)(hg:L[k]?=some g)(hp:Ls[k]?=some p)
  (hx:w.cell? ⟨X,1,none⟩=some (.slice A L.length c)) (hc:w.cell? ⟨C,1,none⟩=some (.slice B Ls.length d))
  (hat:∃b o,A=some ⟨b,o,none⟩/\w.cell? ⟨b,o+k*2,none⟩=some (.int .i64 g.1)) (hbt:∃b o,B=some ⟨b,o,none⟩/\w.cell? ⟨b,o+k*2+1,none⟩=some (.int .i64 p.2)) :
  Calls Tryz.prog 55 #[.int .i64 k,.pointer (some ⟨X,0,none⟩),.pointer (some ⟨C,0,none⟩)] w fun e w'=>e = .returned (.bool (g.1 != p.2))/\∃q,w'=w.drewN q:=by
 obtain⟨b1,o1,rfl,h1⟩:=hat
 obtain⟨b2,o2,rfl,h2⟩:=hbt
 have hk1:k<L.length:=(List.getElem?_eq_some_iff.1 hg).1
 have hk2:k<Ls.length:=(List.getElem?_eq_some_iff.1 hp).1
 clear hg hp
 go_enter Tryz.func55,Tryz.ntmps55
 go_wp2
 go_quiet (fail)
 go_wp2
 go_ret
 exact⟨rfl,_,rfl⟩
def goB(L Ls:LP)(k:Nat):Bool:=(L.getD k (0,0)).1 != (Ls.getD k (0,0)).2
def keepF(L Ls:LP)(l:List Int):List Int:=l.filter fun k=>!(goB L Ls k.toNat)
def PairsIn(v:Value)(w:World)(A:Option Addr)(L:LP):Prop:=
 ∀(j:Nat) (x:Int×Int),L[j]?=some x->∃b o,A=some ⟨b,o,none⟩/\v.ownBlock≠some b/\b<w.heap.size/\w.cell? ⟨b,o+j*2,none⟩=some (.int .i64 x.1)/\w.cell? ⟨b,o+j*2+1,none⟩=some (.int .i64 x.2)
set_option maxRecDepth 1000000 in
set_option maxHeartbeats 4000000 in
theorem index_nil(f:Value)(w:World):Calls Tryz.prog 73 #[.slice none 0 0,f] w fun e w'=>e = .returned (.int .i64 (-1))/\w'=w:=by
 go_enter Tryz.func73,Tryz.ntmps73
 go_wp2
 go_loopw [8] (fun c wr=>c = .int .i64 0/\wr=w) (fun c _=>0)
 case atStart=>exact⟨rfl,rfl⟩
 case round=>
  obtain⟨rfl,rfl⟩:=hrel
  go_wp2
  go_ret
  exact⟨rfl,rfl⟩
set_option maxRecDepth 1000000 in
set_option maxHeartbeats 4000000 in
theorem del_nil(f:Value)(w:World):Calls Tryz.prog 54 #[.slice none 0 0,f] w fun e w'=>e = .returned (.slice none 0 0)/\w'=w:=by
 have R0:=index_nil f w
 go_enter Tryz.func54,Tryz.ntmps54
 go_wp2_with (go_at_call 73;refine R0.mono ?_;rintro e w1 ⟨rfl,rfl⟩)
 go_ret
 exact⟨rfl,rfl⟩
def encF{n:Nat}(k:Fin n):Value:=.int .i64 ((k.val:Nat):Int)
set_option maxRecDepth 1000000 in
theorem del_walk(X C base:Nat)(L Ls:LP)(A B:Option Addr)(c d:Nat)(l:List Int)(v:Value)(w:World)(hL:L.length<=1000)(hLs:L.length=Ls.length)(hl:l.length<=1000)
  (hin:∀x∈l,0<=x/\x<(Ls.length:Int)) (hrow:w.ownsRow base 3 1 v l.length (l.map (Value.int .i64))) (hXl:X<w.heap.size) (hCl:C<w.heap.size)
  (hx:w.cell? ⟨X,1,none⟩=some (.slice A L.length c)) (hc:w.cell? ⟨C,1,none⟩=some (.slice B Ls.length d)) (hat:PairsIn v w A L) (hbt:PairsIn v w B Ls)
  (hpos:v ≠ .slice none 0 0->0<Ls.length)
  (hne:∀g,v.ownBlock=some g->g≠X/\g≠C) :
  Calls Tryz.prog 54 #[v,.func (.func 55) #[] #[.pointer (some ⟨X,0,none⟩),.pointer (some ⟨C,0,none⟩)]] w fun e w'=>∃v',e = .returned v'/\w'.ownsRow base 3 1 v' (keepF L Ls l).length ((keepF L Ls l).map (Value.int .i64)) /\
   (∀g,v'.ownBlock=some g->v.ownBlock=some g)/\bM (fun g=>v.ownBlock=some g) w w':=by
 by_cases hv:v = .slice none 0 0
 .subst hv
  have hl0:l=[]:=by
   rcases hrow.2 with⟨_,h⟩|⟨g,cap,cur,h,_⟩
   .exact List.eq_nil_of_length_eq_zero h
   .cases h
  subst hl0
  refine(del_nil _ w).mono ?_
  rintro e w' ⟨rfl,rfl⟩
  exact⟨_,rfl,by simpa[keepF]using hrow,fun g hg=>hg,bM.refl _ _⟩
 .obtain⟨m,hm⟩:∃m,Ls.length=m+1:=⟨Ls.length-1,by have:=hpos hv;omega⟩
  have hfx:∀x∈l,((Fin.ofNat (m+1) x.toNat).val:Nat)=x.toNat:=fun x hx=>by
   have:=hin x hx
   show x.toNat%(m+1)=_
   exact Nat.mod_eq_of_lt (by omega)
  obtain⟨zs,hzd⟩:∃zs:List (Fin (m+1)),zs=l.map fun x=>Fin.ofNat (m+1) x.toNat:=⟨_,rfl⟩
  have hzs:l.map (Value.int .i64)=zs.map encF:=by
   rw[hzd,List.map_map]
   refine List.map_congr_left fun x hx=>?_
   have:=hin x hx
   show _=Value.int .i64 (((Fin.ofNat (m+1) x.toNat).val:Nat):Int)
   rw[hfx x hx,show((x.toNat:Nat):Int)=x by omega]
  have hks:(zs.filter fun x=>!goB L Ls x.val).map encF=(keepF L Ls l).map (Value.int .i64):=by
   rw[hzd,List.filter_map,List.map_map]
   unfold keepF
   have e1:l.filter ((fun x:Fin (m+1)=>!goB L Ls x.val)∘fun x=>Fin.ofNat (m+1) x.toNat)=l.filter fun k=>!(goB L Ls k.toNat):=List.filter_congr fun x hx=>by
    show(!goB L Ls (Fin.ofNat (m+1) x.toNat).val)=_
    rw[hfx x hx]
   rw[e1]
   refine List.map_congr_left fun x hx=>?_
   have hx':=(List.mem_filter.1 hx).1
   have:=hin x hx'
   show Value.int .i64 (((Fin.ofNat (m+1) x.toNat).val:Nat):Int)=_
   rw[hfx x hx',show((x.toNat:Nat):Int)=x by omega]
  have hkl:(keepF L Ls l).length=(zs.filter fun x=>!goB L Ls x.val).length:=by
   have:=congrArg List.length hks
   simpa using this.symm
  have hrow':=hrow
  rw[hzs]at hrow'
  obtain⟨g,cap,rfl,hg1,hg2,hn,hcm,hzl,hH⟩:=Go.Lib.holds_of_ownsRow hrow' hv
  obtain⟨n1,n2⟩:=hne g rfl
  have hP:∀(W:World) (x:Fin (m+1)),(∀k,k<w.heap.size->k≠g->W.heap[k]?=w.heap[k]?)->FnGives Tryz.prog 55 #[.pointer (some ⟨X,0,none⟩),.pointer (some ⟨C,0,none⟩)] #[encF x] (.bool (goB L Ls x.val)) W:=by
   intro W x hW
   have hxl:x.val<Ls.length:=by have:=x.isLt;omega
   obtain⟨a,ha⟩:∃a,L[x.val]?=some a:=⟨_,List.getElem?_eq_getElem (by omega)⟩
   obtain⟨p,hp⟩:∃p,Ls[x.val]?=some p:=⟨_,List.getElem?_eq_getElem hxl⟩
   have hgo:goB L Ls x.val=(a.1 != p.2):=by
    unfold goB
    rw[List.getD_eq_getElem?_getD,List.getD_eq_getElem?_getD,ha,hp]
    rfl
   rw[hgo]
   obtain⟨b,o,rfl,n3,hb,q1,q2⟩:=hat _ a ha
   obtain⟨b',o',rfl,n4,hb',q1',q2'⟩:=hbt _ p hp
   refine keep_ok X C x.val L Ls _ _ c d a p W hL (by omega) ha hp ?_ ?_ ⟨b,o,rfl,?_⟩ ⟨b',o',rfl,?_⟩
   .exact(World.cell?_of_block (a:=⟨X,1,none⟩) (hW X hXl (Ne.symm n1))).trans hx
   .exact(World.cell?_of_block (a:=⟨C,1,none⟩) (hW C hCl (Ne.symm n2))).trans hc
   .exact(World.cell?_of_block (a:=⟨b,o+x.val*2,none⟩) (hW b hb fun e=>n3 (by rw[e];rfl))).trans q1
   .exact(World.cell?_of_block (a:=⟨b',o'+x.val*2+1,none⟩) (hW b' hb' fun e=>n4 (by rw[e];rfl))).trans q2'
  have hput:∀(dk:Array (Fin (m+1))) (q k:Nat),k≠g->(Go.Sort.putRow encF (Go.Sort.ahead w q) g 0 dk).heap[k]?=w.heap[k]?:=fun dk q k hk=>by
   simp[Go.Sort.putRow,Go.Sort.mapBlock,Go.Sort.ahead,Array.getElem?_modify,Ne.symm hk]
  have hO:OneCell (encF (n:=m+1)):=fun _=>rfl
  have he:∀args w,(callFunc 55 args).run Tryz.prog w = .ok (.enter 55 args) w:=enters_of Tryz.func55 (by kernel_rfl) rfl
  have hz:∀w,(zeroValue (YtfjpfjnepdhnaaaGreat.layDelF_ren.t 23)).run Tryz.prog w = .ok (encF (0:Fin (m+1))) w:=fun w=>Tryz.zeroValue3 w
  have hp:PredAt Tryz.prog 55 #[.pointer (some ⟨X,0,none⟩),.pointer (some ⟨C,0,none⟩)] encF (fun x:Fin (m+1)=>goB L Ls x.val) w:=fun W x hb=>hP W x fun k hk _=>hb.block k hk
  have hpo:PredOver Tryz.prog 55 #[.pointer (some ⟨X,0,none⟩),.pointer (some ⟨C,0,none⟩)] encF (fun x:Fin (m+1)=>goB L Ls x.val) g 0 zs.toArray.size w:=fun n os dk x _=>hP _ x fun k hk hne=>by
   unfold sortWorld Go.Sort.grow
   have:k<(Go.Sort.putRow encF (Go.Sort.ahead w n) g 0 dk).heap.size:=by rw[Go.Sort.size_putRow];exact hk
   show((Go.Sort.putRow encF (Go.Sort.ahead w n) g 0 dk).heap++os)[k]?=_
   rw[Array.getElem?_append_left this,hput dk n k hne]
  have D:=AnyE.slices_DeleteFunc (P:=Tryz.prog) (ρ:=YtfjpfjnepdhnaaaGreat.layDelF_ren) YtfjpfjnepdhnaaaGreat.layDelF (encF (n:=m+1)) hO (fun x=>goB L Ls x.val) 55 _ he 0 hz g 0 cap zs.toArray w hp hpo hH (by simp;omega) (by simp;omega)
  change Calls Tryz.prog 54 _ _ _ at D
  simp only[List.size_toArray,hzl]at D
  refine D.mono ?_
  rintro e w' ⟨rfl,q,rfl⟩
  have hfl:(zs.filter fun x=>!goB L Ls x.val).length<=l.length:=by rw[<-hzl];exact List.length_filter_le _ _
  have H:=Go.Lib.ownsRow_putRow (q:=q) (k:=(zs.filter fun x=>!goB L Ls x.val).length) hrow' (ys:=(zs.filter fun x=>!goB L Ls x.val)++List.replicate (l.length-(zs.filter fun x=>!goB L Ls x.val).length) 0) (by rw[List.length_append,List.length_replicate];omega) hfl
  rw[List.take_left' rfl,hks,<-hkl]at H
  refine⟨_,rfl,?_,fun g hg=>hg,⟨by rw[Go.Sort.size_putRow];exact Nat.le_refl _,fun k _ hk=>hput _ _ _ fun e=>hk (by rw[e];rfl),⟨rfl,rfl,rfl,fun b hb=>?_⟩⟩⟩
  .rw[<-hkl]
   exact H
  .by_cases hbg:b=g
   .subst hbg
    simp only[Go.Sort.putRow,Go.Sort.mapBlock,Go.Sort.ahead,Array.getElem?_modify,if_true,Option.map_map]
    congr 1
    funext o
    cases o<;>simp[Ce,Go.Sort.onCells,Go.Sort.putCells]
   .rw[hput _ _ _ hbg]
end
section
def iniC(Ls:LP):Nat->List Int
 |0=>[]
 |q+1=>match Ls[q]? with
  |some p=>if p.2=2 then iniC Ls q else iniC Ls q++[(q:Int)]
  |none=>iniC Ls q
def gvS(i:Int)(Ls:LP)(g:List Int)(k:Int):List Int:=g.set (i+1+k).toNat (Ls.getD k.toNat (0,0)).2
def gvK(i:Int)(Ls:LP)(N:Nat)(l:List Int)(q:Nat):List Int:=(l.take q).foldl (gvS i Ls) (List.replicate N (-1))
def cndF(B:List Int->Option gB)(i:Int)(Ls:LP)(N:Nat):Nat->List Int->Option (List Int×gB)
 |0,_=>none
 |k+1,l=>match B (gvK i Ls N l l.length) with
  |none=>none
  |some x=>if x.2.1.length=Ls.length then(if(keepF x.2.1 Ls l).length=l.length then some (keepF x.2.1 Ls l,x) else cndF B i Ls N k (keepF x.2.1 Ls l)) else none
theorem iniC_len(Ls:LP):∀q,(iniC Ls q).length<=q
 |0=>Nat.le_refl _
 |q+1=>by
  have:=iniC_len Ls q
  simp only[iniC]
  split
  .split
   .omega
   .simp;omega
  .omega
theorem iniC_in(Ls:LP):∀q,∀x∈iniC Ls q,0<=x/\x<(q:Int)
 |0,x,hx=>by cases hx
 |q+1,x,hx=>by
  have ih:=iniC_in Ls q
  simp only[iniC]at hx
  split at hx
  .split at hx
   .have:=ih x hx;omega
   .rcases List.mem_append.1 hx with h|h
    .have:=ih x h;omega
    .simp at h;omega
  .have:=ih x hx;omega
theorem gvK_len(i:Int)(Ls:LP)(N:Nat)(l:List Int)(q:Nat):(gvK i Ls N l q).length=N:=by
 unfold gvK
 suffices h:∀(m:List Int) (g:List Int),(m.foldl (gvS i Ls) g).length=g.length by rw[h];simp
 intro m
 induction m with
 |nil=>intro g;rfl
 |cons a m ih=>intro g;rw[List.foldl_cons,ih];simp[gvS]
theorem gvK_succ{i:Int}{Ls:LP}{N:Nat}{l:List Int}{q:Nat}{k:Int}(h:l[q]?=some k):gvK i Ls N l (q+1)=gvS i Ls (gvK i Ls N l q) k:=by
 unfold gvK
 rw[List.take_add_one,h,List.foldl_append]
 rfl
def ConEnd(H:Nat)(CV:Nat->World->gB->Value->Prop)(l:List Int)(x:gB)(w:World)(e:Ending)(w':World):Prop:=
 ∃v xv,e = .returned (.tuple #[v,xv,.int .i64 0])/\Below w.heap.size w w'/\w'.ownsRow H 3 1 v l.length (l.map (Value.int .i64))/\∃G,CV G w' x xv
set_option maxRecDepth 1000000 in
set_option maxHeartbeats 4000000 in
theorem con_walk(i:Int)(N l c1 n2 c2 n3 c3 n4 c4:Nat)(A1 A2 A3 A4:Option Addr)(Ls:LP)(w:World)(CV:Nat->World->gB->Value->Prop)(B:List Int->Option gB)(la:List Int)(xa:gB)(fuel:Nat)
  (i0:0<=i) (i1:i<=1000) (l1:l<=1000) (hN:N<=3000) (hiN:i+(l:Int)<=(N:Int)) (hl:l=Ls.length)
  (hat:∀(j:Nat) (x:Int×Int),Ls[j]?=some x->∃b o,A1=some ⟨b,o,none⟩/\b<w.heap.size/\w.cell? ⟨b,o+j*2,none⟩=some (.int .i64 x.1)/\w.cell? ⟨b,o+j*2+1,none⟩=some (.int .i64 x.2))
  (hV:∀W,Below w.heap.size w W->Calls Tryz.prog 48 #[.agg #[.int .i64 i,.slice A1 l c1,.slice A2 n2 c2,.slice A3 n3 c3,.slice A4 n4 c4]] W fun e w'=>e = .returned (.tuple #[.int .i64 (N:Int),.int .i64 0])/\Below W.heap.size W w')
  (hM:∀W,Below w.heap.size w W->Calls Tryz.prog 69 #[.int .u64 1,.int .u64 ((N+1:Nat):Int)] W fun e w'=>e = .returned (.tuple #[.int .u64 0,.int .u64 ((N+1:Nat):Int)])/\Below W.heap.size W w')
  (hB:∀g x T G W,B g=some x->w.heap.size+2<=T->w.heap.size+1<=G->G<W.heap.size->G≠T->g.length=N+1->Flat W T 0 (N+1) g->Below w.heap.size w W ->
   Calls Tryz.prog 53 #[.agg #[.int .i64 i,.slice A1 l c1,.slice A2 n2 c2,.slice A3 n3 c3,.slice A4 n4 c4],.slice (some ⟨T,0,none⟩) (N+1) (N+1)] W fun e w'=>∃xv tv,e = .returned (.tuple #[xv,tv,.int .i64 0])/\Below W.heap.size W w'/\CV G w' x xv)
  (hCV:∀G W W' x xv,CV G W x xv->bM (fun k=>k=w.heap.size+1\/k=G) W W'->CV G W' x xv)
  (hCx:∀G W x xv,CV G W x xv->∃B1 B2 B3 B4 d1 m2 d2 m3 d3 m4 d4,xv = .agg #[.int .i64 x.1,.slice B1 x.2.1.length d1,.slice B2 m2 d2,.slice B3 m3 d3,.slice B4 m4 d4]/\x.2.1.length<=1000 /\
   ∀(j:Nat) (p:Int×Int),x.2.1[j]?=some p->∃b o,B1=some ⟨b,o,none⟩/\b≠G/\b<W.heap.size/\W.cell? ⟨b,o+j*2,none⟩=some (.int .i64 p.1)/\W.cell? ⟨b,o+j*2+1,none⟩=some (.int .i64 p.2))
  (hans:cndF B i Ls (N+1) fuel (iniC Ls l)=some (la,xa)) :
  Calls Tryz.prog 31 #[.agg #[.int .i64 i,.slice A1 l c1,.slice A2 n2 c2,.slice A3 n3 c3,.slice A4 n4 c4]] w (ConEnd (w.heap.size+2) CV la xa w):=by
 have hb1':Below w.heap.size w ((w.alloc (.cells #[.int .i64 i,.slice A1 l c1,.slice A2 n2 c2,.slice A3 n3 c3,.slice A4 n4 c4] 26)).alloc (.cells #[.int .i64 0,.slice none 0 0,.slice none 0 0,.slice none 0 0,.slice none 0 0] 26)):=((Below.refl _ w).alloc (Nat.le_refl _) _).alloc (by simp) _
 have R0:=hV _ hb1'
 have HL:=Hd.mk hl;have KB:=Hd.mk hb1';have KHB:=Hd.mk hB;have KHM:=Hd.mk hM;have KCV:=Hd.mk hCV;have KCx:=Hd.mk hCx;have KA:=Hd.mk hans;have KAt:=Hd.mk hat
 clear hl hb1' hV hB hM hCV hCx hans hat
 go_enter Tryz.func31,Tryz.ntmps31
 go_wp2_with (go_at_call 48;refine R0.mono ?_;rintro e w1 ⟨rfl,hb⟩;have K1:=Hd.mk hb;have hlt1:w.heap.size+2<=w1.heap.size:=(by have:=hb.size;simp at this;omega);have hbox:w1.heap[w.heap.size]?=some (.cells #[.int .i64 i,.slice A1 l c1,.slice A2 n2 c2,.slice A3 n3 c3,.slice A4 n4 c4] 26 (0,0)):=(hb.block _ (by simp;omega)).trans ((Below.heap_alloc _ _ _ (by simp)).trans Array.getElem?_push_size);have e0:w1.cell? ⟨w.heap.size,0,none⟩=some (.int .i64 i):=(by simp[World.cell?,hbox]);have e1:w1.cell? ⟨w.heap.size,1,none⟩=some (.slice A1 l c1):=(by simp[World.cell?,hbox]);have KX:=Hd.mk hbox;have KRb:Hd (w1.heap[w.heap.size+1]?=some (.cells #[.int .i64 0,.slice none 0 0,.slice none 0 0,.slice none 0 0,.slice none 0 0] 26 (0,0))):=⟨(hb.block _ (by simp)).trans (by rw[show w.heap.size+1=(w.alloc (.cells #[.int .i64 i,.slice A1 l c1,.slice A2 n2 c2,.slice A3 n3 c3,.slice A4 n4 c4] 26)).heap.size by simp];exact Array.getElem?_push_size)⟩;clear hb hbox)
 have KB1:Hd (Below w.heap.size w w1):=⟨KB.out.trans (K1.out.mono (by simp;omega))⟩
 clear e0 e1 KB K1
 go_loopw [29,7] (fun c v wr=>∃(q:Nat) (vr:Value),vr=v/\q<=l/\c = .int .i64 (q:Int)/\(q=0->vr = .slice none 0 0)/\wr.ownsRow (w.heap.size+2) 3 1 vr (iniC Ls q).length ((iniC Ls q).map (Value.int .i64))/\Below (w.heap.size+2) w1 wr) (fun c _ _=>l-(intOf c).toNat)
 case atStart=>exact⟨0,_,rfl,by omega,rfl,fun _=>rfl,World.ownsRow_nil _ _ _ _,Below.refl _ _⟩
 case round=>
  obtain⟨q,vr,rfl,hq,rfl,hq0,hown,hbl⟩:=hrel
  have hlow:∀k,k<w.heap.size->wr.heap[k]?=w.heap[k]?:=fun k hk=>(hbl.block k (by omega)).trans (KB1.out.block k hk)
  by_cases hql:q<l
  .obtain⟨p,hp⟩:∃p,Ls[q]?=some p:=⟨_,List.getElem?_eq_getElem (by have:=HL.out;omega)⟩
   obtain⟨Ab,Ao,hA,hAlt,hp1,hp2⟩:=KAt.out q p hp
   have p1:wr.cell? ⟨Ab,Ao+q*2,none⟩=some (.int .i64 p.1):=(World.cell?_of_block (a:=⟨Ab,Ao+q*2,none⟩) (hlow Ab hAlt)).trans hp1
   have p2:wr.cell? ⟨Ab,Ao+q*2+1,none⟩=some (.int .i64 p.2):=(World.cell?_of_block (a:=⟨Ab,Ao+q*2+1,none⟩) (hlow Ab hAlt)).trans hp2
   subst hA
   have Kown:=Hd.mk hown;have Kbl:=Hd.mk hbl;have Kp:=Hd.mk hp
   clear hown hbl hp1 hp2 hlow hp
   by_cases h2:p.2=2
   .have h2':(p.2 != 2)=false:=by simp[h2]
    have K2:=Hd.mk h2
    clear h2
    go_wp2
    all_goals go_roundw
    case rel=>
     have hb':Below wr.heap.size wr (wr.alloc (.cells #[.int .i64 p.1,.int .i64 p.2] 36)):=(Below.refl _ wr).alloc (Nat.le_refl _) _
     refine⟨q+1,vr,rfl,by omega,by go_num,fun h=>by omega,?_,Kbl.out.trans (hb'.mono (by have:=Kbl.out.size;omega))⟩
     have e:iniC Ls (q+1)=iniC Ls q:=by simp only[iniC,Kp.out,if_pos K2.out]
     rw[e]
     exact pj Kown.out fun g _ hg=>hb'.block g hg
    case measure=>simp[intOf];omega
   .have h2':(p.2 != 2)=true:=by simp[h2]
    have K2:=Hd.mk h2
    have hb':Below wr.heap.size wr ((wr.alloc (.cells #[.int .i64 p.1,.int .i64 p.2] 36)).alloc (.cells #[.int .i64 (q:Int)] 3)):=((Below.refl _ wr).alloc (Nat.le_refl _) _).alloc (by simp) _
    have hX:((wr.alloc (.cells #[.int .i64 p.1,.int .i64 p.2] 36)).alloc (.cells #[.int .i64 (q:Int)] 3)).cell? ⟨wr.heap.size+1,0,none⟩=some (.int .i64 (q:Int)):=by
     have hh:((wr.alloc (.cells #[.int .i64 p.1,.int .i64 p.2] 36)).alloc (.cells #[.int .i64 (q:Int)] 3)).heap[wr.heap.size+1]?=some (.cells #[.int .i64 (q:Int)] 3 (0,0)):=by
      rw[show wr.heap.size+1=(wr.alloc (.cells #[.int .i64 p.1,.int .i64 p.2] 36)).heap.size by simp]
      exact Array.getElem?_push_size
     rw[cell_of hh];rfl
    have hI:Nr (w.heap.size+2) (w.heap.size+2) ((wr.alloc (.cells #[.int .i64 p.1,.int .i64 p.2] 36)).alloc (.cells #[.int .i64 (q:Int)] 3)) (iniC Ls q) vr:=.inl (pj Kown.out fun g _ hg=>hb'.block g hg)
    have hil:=iniC_len Ls q
    have Kb:=Hd.mk hb';have KX':=Hd.mk hX;have KI:=Hd.mk hI
    clear h2 hb' hX hI
    go_wp2_with (at_builtin;go_loud (refine AO rfl _ _ rfl (w.heap.size+2) (w.heap.size+2) vr (iniC Ls q) rfl KI.out (wr.heap.size+1) (q:Int) rfl KX'.out ?c1 ?c2 ?_))
    case c1=>omega
    case c2=>have:=Kb.out.size;have:=Kbl.out.size;omega
    intro v7 w7 ho7 hg7
    have hle:=Kbl.out.size
    have hbl7:Below (w.heap.size+2) w1 w7:=by
     obtain⟨a1,a2,a3,a4,a5,a6,a7⟩:=hg7
     refine Kbl.out.trans ((Kb.out.mono (by omega)).trans ⟨a1,a2,a3,a4,fun k hk=>a7 k (by have:=Kb.out.size;omega) (.inl hk)⟩)
    have K7:=Hd.mk ho7;have K8:=Hd.mk hbl7
    clear ho7 hg7 hbl7
    go_wp2
    all_goals go_roundw
    case rel=>
     have e:iniC Ls (q+1)=iniC Ls q++[(q:Int)]:=by simp only[iniC,Kp.out,if_neg K2.out]
     refine⟨q+1,_,rfl,by omega,by go_num,fun h=>by omega,?_,K8.out⟩
     rw[e]
     simpa using K7.out
    case measure=>simp[intOf];omega
  .have hqE:q=l:=by omega
   subst hqE
   have hXr:=(hbl.block w.heap.size (by omega)).trans KX.out
   have hRr:=(hbl.block (w.heap.size+1) (by omega)).trans KRb.out
   have hBr:Below w.heap.size w wr:=KB1.out.trans (hbl.mono (by omega))
   have hsz:w.heap.size+2<=wr.heap.size:=Nat.le_trans hlt1 hbl.size
   have Kown:=Hd.mk hown;have KXr:=Hd.mk hXr;have KRr:=Hd.mk hRr;have KBr:=Hd.mk hBr
   clear hown hbl hXr hRr hBr hlow KB1 KX KRb hlt1
   obtain⟨w1,rfl⟩:∃w1:World,w1=wr:=⟨_,rfl⟩
   go_wp2
   obtain⟨iN,rfl⟩:=Int.eq_ofNat_of_zero_le i0
   have hAn:∀(W:World),(∃T,True):=fun _=>⟨0,trivial⟩
   clear hAn
   go_loopg [7] fuel (fun k v wr=>∃ll,cndF B (iN:Int) Ls (N+1) k ll=some (la,xa)/\ll.length<=1000/\(∀x∈ll,0<=x/\x<(Ls.length:Int))/\(v ≠ .slice none 0 0->0<Ls.length)/\wr.ownsRow (w.heap.size+2) 3 1 v ll.length (ll.map (Value.int .i64))/\Below (w.heap.size+2) w1 wr)
   case atStart=>
    refine⟨_,KA.out,Nat.le_trans (iniC_len Ls q) l1,fun x hx=>by have:=iniC_in Ls q x hx;have:=HL.out;omega,fun hne=>?_,Kown.out,Below.refl _ _⟩
    rcases Nat.eq_zero_or_pos q with h0|h0
    .exact absurd (hq0 h0) hne
    .have:=HL.out;omega
   case round=>
    obtain⟨ll,hfn,hll,hin,hpos,hown,hbl⟩:=hrel
    obtain⟨k',rfl⟩:∃k',gk=k'+1:=by
     cases gk with
     |zero=>simp[cndF]at hfn
     |succ k'=>exact⟨k',rfl⟩
    simp only[cndF]at hfn
    cases hBx:B (gvK (iN:Int) Ls (N+1) ll ll.length) with
    |none=>rw[hBx]at hfn;cases hfn
    |some x=>
    rw[hBx]at hfn
    simp only at hfn
    split at hfn
    case isFalse=>cases hfn
    rename_i hxl
    have hXr:=(hbl.block w.heap.size (by omega)).trans KXr.out
    have hRr:=(hbl.block (w.heap.size+1) (by omega)).trans KRr.out
    have hbw:Below w.heap.size w wr:=KBr.out.trans (hbl.mono (by omega))
    obtain⟨Al,lcap,rfl⟩:=Kw hown
    have hNw:IntKind.i64.wrap ((N:Int)+1)=(N:Int)+1:=by rw[IntKind.wrap_i64];omega
    have hb0:Below wr.heap.size wr (wr.alloc (.cells #[.int .i64 (-1)] 3)):=(Below.refl _ wr).alloc (Nat.le_refl _) _
    have hX0:(wr.alloc (.cells #[.int .i64 (-1)] 3)).cell? ⟨wr.heap.size,0,none⟩=some (.int .i64 (-1)):=by
     have hh:(wr.alloc (.cells #[.int .i64 (-1)] 3)).heap[wr.heap.size]?=some (.cells #[.int .i64 (-1)] 3 (0,0)):=Array.getElem?_push_size
     rw[cell_of hh];rfl
    have hszr:w.heap.size+2<=wr.heap.size:=Nat.le_trans hsz hbl.size
    have R1:=GD wr.heap.size 0 1 (N+1) (wr.alloc (.cells #[.int .i64 (-1)] 3)) (by omega) (by omega) hX0 (fun W hW=>KHM.out W (hbw.trans ((hb0.trans (hW.mono (by simp))).mono (by omega))))
    rw[show((N+1:Nat):Int)=(N:Int)+1 from by omega]at R1
    have KF:=Hd.mk hfn;have Kown:=Hd.mk hown;have Kbl:=Hd.mk hbl;have Kbw:=Hd.mk hbw;have KX2:=Hd.mk hXr;have KR2:=Hd.mk hRr;have Kxl:=Hd.mk hxl;have Kin:=Hd.mk hin;have Kpos:=Hd.mk hpos;have Kb0:=Hd.mk hb0;have KBx:=Hd.mk hBx
    clear hfn hbl hbw hXr hRr hxl hBx hin hpos hb0 hX0 hown
    obtain⟨ws,rfl⟩:∃ws:World,ws=wr:=⟨_,rfl⟩
    go_wp2_with (go_at_call 52;refine R1.mono ?_;rintro e w2 ⟨T,rfl,hT,hb2,hrow⟩;have Kb2:=Hd.mk hb2;have Krow:=Hd.mk hrow;clear hb2 hrow)
    have hT2:w.heap.size+2<=T:=by have:=Kb0.out.size;omega
    have hF0:Flat w2 T 0 (N+1) (gvK (iN:Int) Ls (N+1) ll 0):=by
     refine⟨_,3,Krow.out,by simp,fun j x hx=>?_⟩
     have e:gvK (iN:Int) Ls (N+1) ll 0=List.replicate (N+1) (-1):=rfl
     rw[e]at hx
     rw[List.getElem?_replicate]at hx
     split at hx
     .rename_i hj
      cases hx
      simp[hj]
     .cases hx
    have hb2:Below ws.heap.size ws w2:=Kb0.out.trans (Kb2.out.mono Kb0.out.size)
    have KF0:=Hd.mk hF0;have KB2:=Hd.mk hb2
    clear hF0 hb2 Krow
    go_loopw [48] (fun c wr=>∃r:Nat,r<=ll.length/\c = .int .i64 (r:Int)/\Flat wr T 0 (N+1) (gvK (iN:Int) Ls (N+1) ll r)/\Left (fun k=>k=T) w2 wr) (fun c _=>ll.length-(intOf c).toNat)
    case atStart=>exact⟨0,Nat.zero_le _,rfl,KF0.out,Left.refl _ _⟩
    case round=>
     obtain⟨r,hr,rfl,hFl,hLe⟩:=hrel
     have hTs:ws.heap.size<=T:=Nat.le_trans Kb0.out.size hT
     have hold:∀k,k<ws.heap.size->wr.heap[k]?=ws.heap[k]?:=fun k hk=>(hLe.block k (Nat.lt_of_lt_of_le hk KB2.out.size) (by omega)).trans (KB2.out.block k hk)
     have hXr:=(hold w.heap.size (by omega)).trans KX2.out
     by_cases hrl:r<ll.length
     .obtain⟨kk,hkk⟩:∃kk,ll[r]?=some kk:=⟨_,List.getElem?_eq_getElem hrl⟩
      obtain⟨lg,rfl⟩:∃lg,Al=some ⟨lg,0,none⟩:=by
       rcases Kown.out.2 with⟨h1,h2⟩|⟨g,cap,cur,h1,_⟩
       .omega
       .cases h1;exact⟨g,rfl⟩
      have hkin:=Kin.out kk (List.mem_of_getElem? hkk)
      obtain⟨kn,rfl⟩:=Int.eq_ofNat_of_zero_le hkin.1
      have hkL:kn<Ls.length:=by omega
      obtain⟨p,hp⟩:∃p,Ls[kn]?=some p:=⟨_,List.getElem?_eq_getElem hkL⟩
      obtain⟨Ab,Ao,hA,hAlt,hp1,hp2⟩:=KAt.out kn p hp
      subst hA
      have hlc:ws.cell? ⟨lg,0+r,none⟩=some (.int .i64 (kn:Int)):=by
       have:=Kown.out.cells (g:=lg) rfl r _ (by rw[List.getElem?_map,hkk];rfl)
       rwa [Go.Proofs.YtfjpfjnepdhnaaaGreat.R.add_plain rfl]at this
      have hlg:=World.block_lt_of_cell? _ _ hlc
      have f0:wr.cell? ⟨lg,r,none⟩=some (.int .i64 (kn:Int)):=by
       have:=(World.cell?_of_block (a:=⟨lg,0+r,none⟩) (hold lg hlg)).trans hlc
       rwa [Nat.zero_add]at this
      have e0:wr.drew.cell? ⟨w.heap.size,0,none⟩=some (.int .i64 (iN:Int)):=by show wr.cell? _=_;rw[cell_of hXr];rfl
      have e1:wr.drew.cell? ⟨w.heap.size,1,none⟩=some (.slice (some ⟨Ab,Ao,none⟩) q c1):=by show wr.cell? _=_;rw[cell_of hXr];rfl
      have e2:wr.drew.cell? ⟨Ab,Ao+kn*2+1,none⟩=some (.int .i64 p.2):=(World.cell?_of_block (a:=⟨Ab,Ao+kn*2+1,none⟩) ((hold Ab (by omega)).trans (Kbw.out.block Ab hAlt))).trans hp2
      have hgl:=gvK_len (iN:Int) Ls (N+1) ll r
      obtain⟨J,hJ⟩:∃J,J=iN+1+kn:=⟨_,rfl⟩
      obtain⟨old,hold'⟩:∃old,(gvK (iN:Int) Ls (N+1) ll r)[J]?=some old:=⟨_,List.getElem?_eq_getElem (by have:=HL.out;omega)⟩
      have t1:wr.drew.cell? ⟨T,J,none⟩=some (.int .i64 old):=by
       have:=hFl.cell hold'
       rw[Nat.zero_add]at this
       exact this
      have t2:wr.drew.frozen? ⟨T,J,none⟩=false:=hFl.frozen _
      have hw1:IntKind.i64.wrap ((iN:Int)+1)=(iN:Int)+1:=by rw[IntKind.wrap_i64];omega
      have hw2:IntKind.i64.wrap ((iN:Int)+1+(kn:Int))=(J:Int):=by have:=HL.out;rw[IntKind.wrap_i64];omega
      have hlt2:J<N+1:=by have:=HL.out;omega
      have hlt3:(J:Int)<(N:Int)+1:=by omega
      have hkq:kn<q:=by have:=HL.out;omega
      have hset:Flat (wr.drew.setCell ⟨T,J,none⟩ (.int .i64 p.2)) T 0 (N+1) (gvK (iN:Int) Ls (N+1) ll (r+1)):=by
       have h:=Flat.set (w:=wr.drew) (y:=p.2) (show Flat wr.drew T 0 (N+1) _ from hFl) hold'
       rw[Nat.zero_add]at h
       rw[gvK_succ hkk]
       unfold gvS
       rw[show((iN:Int)+1+(kn:Int)).toNat=J by omega,show((kn:Nat):Int).toNat=kn by omega,List.getD_eq_getElem?_getD,hp]
       exact h
      have hLe2:Left (fun k=>k=T) w2 (wr.drew.setCell ⟨T,J,none⟩ (.int .i64 p.2)):=hLe.trans ⟨rfl,rfl,rfl,by simp[World.setCell],fun k hk hn=>Below.heap_setCell _ _ _ _ hn⟩
      have Kset:=Hd.mk hset;have KLe2:=Hd.mk hLe2
      clear hset hLe2 hFl hLe hold hXr hkk hp hp2 hp1 hlc hold' hkin hJ
      go_wp2
      generalize hwd:wr.drew=wD at e0 e1 e2 t1 t2 Kset KLe2
      go_still_tail 13,(by kernel_rfl)
      repeat still_step
      change wpList _ _ _ _ _ wr.drew
      rw[hwd]
      clear hwd
      go_wp2
      all_goals go_roundw
      case rel=>exact⟨r+1,by omega,by go_num,Kset.out,KLe2.out⟩
      case measure=>simp[intOf];omega
     .have hrE:r=ll.length:=by omega
      subst hrE
      have hHs:w.heap.size<ws.heap.size:=lt_of_block KX2.out
      have hRs:w.heap.size+1<ws.heap.size:=lt_of_block KR2.out
      have hle:ws.heap.size<=wr.heap.size:=Nat.le_trans KB2.out.size hLe.size
      have hTl:T<wr.heap.size:=hFl.lt
      obtain⟨G,hG1,hG2,hG4⟩:∃G,w.heap.size+1<=G/\G<ws.heap.size/\∀g,(Value.slice Al ll.length lcap).ownBlock=some g->g=G:=by
       rcases Kown.out.2 with⟨h1,h2⟩|⟨g,cap,cur,h1,h2,h3,_⟩
       .obtain rfl:Al=none:=by injection h1
        exact⟨w.heap.size+1,Nat.le_refl _,hRs,fun g hg=>by cases hg⟩
       .cases h1;exact⟨g,by omega,lt_of_block h3,fun g' hg=>by cases hg;rfl⟩
      have hbwr:Below w.heap.size w wr:=⟨hLe.os.trans (KB2.out.os.trans Kbw.out.os),hLe.tape.trans (KB2.out.tape.trans Kbw.out.tape),hLe.output.trans (KB2.out.output.trans Kbw.out.output),Nat.le_trans Kbw.out.size hle,fun k hk=>(hold k (by omega)).trans (Kbw.out.block k hk)⟩
      have R3:=KHB.out _ x T G wr KBx.out hT2 hG1 (by omega) (by omega) (gvK_len _ _ _ _ _) hFl hbwr
      have x0:wr.cell? ⟨w.heap.size,0,none⟩=some (.int .i64 (iN:Int)):=by rw[cell_of hXr];rfl
      have x1:wr.cell? ⟨w.heap.size,1,none⟩=some (.slice A1 q c1):=by rw[cell_of hXr];rfl
      have x2:wr.cell? ⟨w.heap.size,2,none⟩=some (.slice A2 n2 c2):=by rw[cell_of hXr];rfl
      have x3:wr.cell? ⟨w.heap.size,3,none⟩=some (.slice A3 n3 c3):=by rw[cell_of hXr];rfl
      have x4:wr.cell? ⟨w.heap.size,4,none⟩=some (.slice A4 n4 c4):=by rw[cell_of hXr];rfl
      have Kold:=Hd.mk hold;have KHs:=Hd.mk hHs;have KRs:=Hd.mk hRs;have Kle:=Hd.mk hle;have KG1:=Hd.mk hG1;have KG2:=Hd.mk hG2;have KG4:=Hd.mk hG4;have Kbwr:=Hd.mk hbwr;have Kos:=Hd.mk (⟨hLe.os.trans KB2.out.os,hLe.tape.trans KB2.out.tape,hLe.output.trans KB2.out.output⟩:wr.os=ws.os/\wr.tape=ws.tape/\wr.output=ws.output)
      clear hold hXr hFl hLe hHs hRs hle hTl hG1 hG2 hG4 hbwr KF0 hT hTs R1
      obtain⟨w3,rfl⟩:∃w3:World,w3=wr:=⟨_,rfl⟩
      go_wp2_with (go_at_call 53;refine R3.mono ?_;rintro e w4 ⟨xv,tv,rfl,hb4,hcv⟩;obtain⟨B1,B2,B3,B4,d1,m2,d2,m3,d3,m4,d4,rfl,hx1,hxat⟩:=KCx.out G w4 x xv hcv;have Kb4:=Hd.mk hb4;have Kcv:=Hd.mk hcv;have Kxat:=Hd.mk hxat;have Kx1:=Hd.mk hx1;clear hb4 hcv hxat hx1)
      have hb5:Below w4.heap.size w4 (w4.alloc (.cells #[.int .i64 x.1,.slice B1 x.2.1.length d1,.slice B2 m2 d2,.slice B3 m3 d3,.slice B4 m4 d4] 26)):=(Below.refl _ w4).alloc (Nat.le_refl _) _
      have hX5:(w4.alloc (.cells #[.int .i64 x.1,.slice B1 x.2.1.length d1,.slice B2 m2 d2,.slice B3 m3 d3,.slice B4 m4 d4] 26)).heap[w4.heap.size]?=some (.cells #[.int .i64 x.1,.slice B1 x.2.1.length d1,.slice B2 m2 d2,.slice B3 m3 d3,.slice B4 m4 d4] 26 (0,0)):=Array.getElem?_push_size
      have hS5:(w4.alloc (.cells #[.int .i64 x.1,.slice B1 x.2.1.length d1,.slice B2 m2 d2,.slice B3 m3 d3,.slice B4 m4 d4] 26)).heap.size=w4.heap.size+1:=by simp
      have hcv5:=KCV.out G _ _ _ _ Kcv.out (yx hb5)
      have hxat5:PairsIn (.slice Al ll.length lcap) (w4.alloc (.cells #[.int .i64 x.1,.slice B1 x.2.1.length d1,.slice B2 m2 d2,.slice B3 m3 d3,.slice B4 m4 d4] 26)) B1 x.2.1:=fun j p hp=>by
       obtain⟨b,o,g1,g2,g3,g4,g5⟩:=Kxat.out j p hp
       exact⟨b,o,g1,fun e=>g2 (KG4.out b e),by rw[hS5];omega,(World.cell?_alloc_past _ _ _ g3).trans g4,(World.cell?_alloc_past _ _ _ g3).trans g5⟩
      have hX4:=Kb4.out.size
      have hwle:w.heap.size<=w3.heap.size:=Kbwr.out.size
      have hold5:∀k,k<ws.heap.size->(w4.alloc (.cells #[.int .i64 x.1,.slice B1 x.2.1.length d1,.slice B2 m2 d2,.slice B3 m3 d3,.slice B4 m4 d4] 26)).heap[k]?=ws.heap[k]?:=fun k hk=>(hb5.block k (by have:=Kle.out;omega)).trans ((Kb4.out.block k (by have:=Kle.out;omega)).trans (Kold.out k hk))
      have hbs5:Below w.heap.size w (w4.alloc (.cells #[.int .i64 x.1,.slice B1 x.2.1.length d1,.slice B2 m2 d2,.slice B3 m3 d3,.slice B4 m4 d4] 26)):=Kbwr.out.trans ((Kb4.out.trans (hb5.mono hX4)).mono hwle)
      have hos5:(w4.alloc (.cells #[.int .i64 x.1,.slice B1 x.2.1.length d1,.slice B2 m2 d2,.slice B3 m3 d3,.slice B4 m4 d4] 26)).os=ws.os/\(w4.alloc (.cells #[.int .i64 x.1,.slice B1 x.2.1.length d1,.slice B2 m2 d2,.slice B3 m3 d3,.slice B4 m4 d4] 26)).tape=ws.tape/\(w4.alloc (.cells #[.int .i64 x.1,.slice B1 x.2.1.length d1,.slice B2 m2 d2,.slice B3 m3 d3,.slice B4 m4 d4] 26)).output=ws.output:=⟨Kb4.out.os.trans Kos.out.1,Kb4.out.tape.trans Kos.out.2.1,Kb4.out.output.trans Kos.out.2.2⟩
      clear hb5
      generalize (w4.alloc (.cells #[.int .i64 x.1,.slice B1 x.2.1.length d1,.slice B2 m2 d2,.slice B3 m3 d3,.slice B4 m4 d4] 26))=W5 at hX5 hS5 hcv5 hxat5 hold5 hbs5 hos5 ⊢
      have hle5:ws.heap.size<=W5.heap.size:=by have:=Kle.out;omega
      have hXs:ws.heap.size<=w4.heap.size:=Nat.le_trans Kle.out hX4
      generalize w4.heap.size=X at hX5 hS5 hX4 hXs ⊢
      have hown5:W5.ownsRow (w.heap.size+2) 3 1 (.slice Al ll.length lcap) ll.length (ll.map (Value.int .i64)):=pj Kown.out fun g _ hg=>hold5 g hg
      have hC5:=(hold5 w.heap.size KHs.out).trans KX2.out
      have hR5:=(hold5 (w.heap.size+1) KRs.out).trans KR2.out
      have hqL:=HL.out
      have D1:=del_walk X w.heap.size (w.heap.size+2) x.2.1 Ls B1 A1 d1 c1 ll (.slice Al ll.length lcap) W5 Kx1.out Kxl.out hll Kin.out hown5 (by omega) (by have:=KHs.out;omega) (by rw[cell_of hX5];rfl) (by rw[cell_of hC5,<-hqL];rfl) hxat5
       (fun j p hp=>by
        obtain⟨b,o,g1,g3,g4,g5⟩:=KAt.out j p hp
        exact⟨b,o,g1,fun e=>by have:=KG4.out b e;have:=KG1.out;omega,by have:=hbs5.size;omega,(World.cell?_of_block (a:=⟨b,o+j*2,none⟩) (hbs5.block b g3)).trans g4,(World.cell?_of_block (a:=⟨b,o+j*2+1,none⟩) (hbs5.block b g3)).trans g5⟩) Kpos.out
       (fun g hg=>by have:=KG4.out g hg;have:=KG1.out;have:=KG2.out;omega)
      have hafter:∀w6 A6 c6,w6.ownsRow (w.heap.size+2) 3 1 (.slice A6 (keepF x.2.1 Ls ll).length c6) (keepF x.2.1 Ls ll).length ((keepF x.2.1 Ls ll).map (Value.int .i64))->(∀g,(Value.slice A6 (keepF x.2.1 Ls ll).length c6).ownBlock=some g->(Value.slice Al ll.length lcap).ownBlock=some g)->bM (fun g=>(Value.slice Al ll.length lcap).ownBlock=some g) W5 w6 ->
        CV G w6 x (.agg #[.int .i64 x.1,.slice B1 x.2.1.length d1,.slice B2 m2 d2,.slice B3 m3 d3,.slice B4 m4 d4])/\Below (w.heap.size+2) ws w6/\Below w.heap.size w w6/\w6.heap[X]?=some (.cells #[.int .i64 x.1,.slice B1 x.2.1.length d1,.slice B2 m2 d2,.slice B3 m3 d3,.slice B4 m4 d4] 26 (0,0)) /\
        w6.heap[w.heap.size+1]?=some (.cells #[.int .i64 0,.slice none 0 0,.slice none 0 0,.slice none 0 0,.slice none 0 0] 26 (0,0))/\((Value.slice A6 (keepF x.2.1 Ls ll).length c6) ≠ .slice none 0 0->0<Ls.length):=by
       intro w6 A6 c6 ho6 hv6 hs6
       have hG1:=KG1.out;have hG2:=KG2.out;have hHs:=KHs.out;have hRs:=KRs.out
       have hk6:∀k,k<ws.heap.size->(Value.slice Al ll.length lcap).ownBlock≠some k->w6.heap[k]?=ws.heap[k]?:=fun k hk hne=>(hs6.eq k (by omega) hne).trans (hold5 k hk)
       have hlow:∀k,k<w.heap.size+2->(Value.slice Al ll.length lcap).ownBlock≠some k:=fun k hk e=>by have:=(hown5.lt k e).1;omega
       have hb2:Below (w.heap.size+2) ws w6:=⟨hs6.st.os.trans hos5.1,hs6.st.tape.trans hos5.2.1,hs6.st.output.trans hos5.2.2,Nat.le_trans hle5 hs6.le,fun k hk=>hk6 k (by omega) (hlow k hk)⟩
       refine⟨KCV.out G _ _ _ _ hcv5 (hs6.mono fun k _ hk=>.inr (KG4.out k hk)),hb2,Kbw.out.trans (hb2.mono (by omega)),(hs6.eq X (by omega) fun e=>by have:=KG4.out X e;omega).trans hX5,(hb2.block (w.heap.size+1) (by omega)).trans KR2.out,fun hne=>?_⟩
       rcases ho6.2 with⟨h1,h2⟩|⟨g,cap,cur,h1,h2,h3,_⟩
       .exact absurd h1 hne
       .refine Kpos.out fun e=>?_
        have:=hv6 g (by rw[h1];rfl)
        rw[e]at this
        cases this
      have KAf:=Hd.mk hafter;have KD1:=Hd.mk D1
      clear hafter D1 hX5 hS5 hcv5 hxat5 hold5 hbs5 hos5 hle5 hX4 hXs hown5 hC5 hR5 hqL
      have hfn:=KF.out
      by_cases hlen:(keepF x.2.1 Ls ll).length=ll.length
      .have hlz:(((keepF x.2.1 Ls ll).length:Int)==(ll.length:Int))=true:=by simp[hlen]
       rw[if_pos hlen]at hfn
       have Kfn:=Hd.mk hfn;have Klen:=Hd.mk hlen
       clear hfn hlen
       go_wp2_with (go_at_call 54;refine KD1.out.mono ?_;rintro e w6 ⟨v6,rfl,ho6,hv6,hs6⟩;obtain⟨A6,c6,rfl⟩:=Kw ho6;obtain⟨z1,z2,z3,z4,z5,z6⟩:=KAf.out w6 A6 c6 ho6 hv6 hs6;obtain⟨y0,y0',y1,y1',y2,y2',y3,y3',y4,y4',yN,yM,yQ⟩:=FQ w6 (w.heap.size+1) (.int .i64 x.1) (.slice B1 x.2.1.length d1) (.slice B2 m2 d2) (.slice B3 m3 d3) (.slice B4 m4 d4) _ _ _ _ _ z5;have x0:w6.cell? ⟨X,0,none⟩=some (.int .i64 x.1):=(by rw[cell_of z4];rfl);have x1:w6.cell? ⟨X,1,none⟩=some (.slice B1 x.2.1.length d1):=(by rw[cell_of z4];rfl);have x2:w6.cell? ⟨X,2,none⟩=some (.slice B2 m2 d2):=(by rw[cell_of z4];rfl);have x3:w6.cell? ⟨X,3,none⟩=some (.slice B3 m3 d3):=(by rw[cell_of z4];rfl);have x4:w6.cell? ⟨X,4,none⟩=some (.slice B4 m4 d4):=(by rw[cell_of z4];rfl);have Z1:=Hd.mk z1;have Z3:=Hd.mk z3;have Z5:=Hd.mk z5;have KN:=Hd.mk yN;have KM:=Hd.mk yM;have KQ:=Hd.mk yQ;have Ko6:=Hd.mk ho6;clear z1 z2 z3 z4 z5 z6 yN yM yQ ho6 hv6 hs6)
       go_region
       clear y0 y0' y1 y1' y2 y2' y3 y3' y4 y4' x0 x1 x2 x3 x4
       have hset:pF w6 (w.heap.size+1) (.int .i64 x.1) (.slice B1 x.2.1.length d1) (.slice B2 m2 d2) (.slice B3 m3 d3) (.slice B4 m4 d4)=((((w6.setCell ⟨w.heap.size+1,0,none⟩ (.int .i64 x.1)).setCell ⟨w.heap.size+1,1,none⟩ (.slice B1 x.2.1.length d1)).setCell ⟨w.heap.size+1,2,none⟩ (.slice B2 m2 d2)).setCell ⟨w.heap.size+1,3,none⟩ (.slice B3 m3 d3)).setCell ⟨w.heap.size+1,4,none⟩ (.slice B4 m4 d4):=rfl
       rw[<-hset]
       clear hset
       have KN':Hd ((pF w6 (w.heap.size+1) (.int .i64 x.1) (.slice B1 x.2.1.length d1) (.slice B2 m2 d2) (.slice B3 m3 d3) (.slice B4 m4 d4)).drew.heap[w.heap.size+1]?=some (.cells #[.int .i64 x.1,.slice B1 x.2.1.length d1,.slice B2 m2 d2,.slice B3 m3 d3,.slice B4 m4 d4] 26 (0,0))):=⟨KN.out⟩
       have KLe:Hd (Left (fun k=>k=w.heap.size+1) w6 (pF w6 (w.heap.size+1) (.int .i64 x.1) (.slice B1 x.2.1.length d1) (.slice B2 m2 d2) (.slice B3 m3 d3) (.slice B4 m4 d4)).drew):=⟨⟨KQ.out.1,KQ.out.2.1,KQ.out.2.2.1,by show _<=(pF _ _ _ _ _ _ _).heap.size;rw[KQ.out.2.2.2];exact Nat.le_refl _,fun k _ hk=>KM.out k hk⟩⟩
       have KSa:Hd (bM (fun k=>k=w.heap.size+1\/k=G) w6 (pF w6 (w.heap.size+1) (.int .i64 x.1) (.slice B1 x.2.1.length d1) (.slice B2 m2 d2) (.slice B3 m3 d3) (.slice B4 m4 d4)).drew):=⟨⟨KLe.out.size,fun b hb hn=>KLe.out.block b hb (fun e=>hn (.inl e)),⟨KLe.out.os,KLe.out.tape,KLe.out.output,fun b hb=>by
        by_cases hbE:b=w.heap.size+1
        .subst hbE;rw[KN'.out,Z5.out];rfl
        .rw[KLe.out.block b hb hbE]⟩⟩⟩
       generalize (pF w6 (w.heap.size+1) (.int .i64 x.1) (.slice B1 x.2.1.length d1) (.slice B2 m2 d2) (.slice B3 m3 d3) (.slice B4 m4 d4)).drew=WF at KN' KLe KSa ⊢
       go_wp2
       refine bodyPost_ret (v:=.tuple #[.slice A6 (keepF x.2.1 Ls ll).length c6,.agg #[.int .i64 x.1,.slice B1 x.2.1.length d1,.slice B2 m2 d2,.slice B3 m3 d3,.slice B4 m4 d4],.int .i64 0]) (Bk rfl rfl rfl (run_loadVar_row _ _ 26 26 _ (0,0) _ KN'.out Tryz.underlying26 rfl (by kernel_rfl)) rfl) rfl ?_
       have hfn:=Kfn.out
       cases hfn
       refine⟨_,_,rfl,⟨KLe.out.os.trans Z3.out.os,KLe.out.tape.trans Z3.out.tape,KLe.out.output.trans Z3.out.output,Nat.le_trans Z3.out.size KLe.out.size,fun j hj=>(KLe.out.block j (Nat.lt_of_lt_of_le hj Z3.out.size) (by omega)).trans (Z3.out.block j hj)⟩,pj Ko6.out fun g hg hlt=>KLe.out.block g hlt (fun e=>by have:=(Ko6.out.lt g hg).1;omega),G,KCV.out G _ _ _ _ Z1.out KSa.out⟩
      .have hlz:(((keepF x.2.1 Ls ll).length:Int)==(ll.length:Int))=false:=by
        apply beq_false_of_ne;omega
       rw[if_neg hlen]at hfn
       have Kfn:=Hd.mk hfn;have Klen:=Hd.mk hlen
       clear hfn hlen
       go_wp2_with (go_at_call 54;refine KD1.out.mono ?_;rintro e w6 ⟨v6,rfl,ho6,hv6,hs6⟩;obtain⟨A6,c6,rfl⟩:=Kw ho6;obtain⟨z1,z2,z3,z4,z5,z6⟩:=KAf.out w6 A6 c6 ho6 hv6 hs6;have Z2:=Hd.mk z2;have Z6:=Hd.mk z6;have Ko6:=Hd.mk ho6;clear z1 z2 z3 z4 z5 z6 ho6 hv6 hs6)
       all_goals go_roundg k'
       case measure=>omega
       case rel=>
        refine⟨_,Kfn.out,Nat.le_trans (List.length_filter_le _ _) hll,fun x hx=>Kin.out x (List.mem_filter.1 hx).1,Z6.out,Ko6.out,Kbl.out.trans (Z2.out.mono ?_)⟩
        have:=KHs.out;have:=Kbl.out.size;omega
end
section
theorem pairs_not{w:World}{bad:Nat->Prop}{l:LP}{b o n c:Nat}{bs:List Nat}(h:eO noβ [] w bad (.d (.list (.pair (.int .i64) (.int .i64))) l) (.slice (some ⟨b,o,none⟩) n c) bs){j:Nat}{x:Int×Int}(hx:l[j]?=some x):¬bad b:=by
 obtain⟨_,cs,hcs,A,c',hcs',_,_,hr⟩:=h
 have e:cs=[.slice (some ⟨b,o,none⟩) n c]:=hcs
 rw[e]at hcs'
 cases hcs'
 exact(hr _ rfl j x hx).2.1
theorem own_intsG{w:World}{base:Nat}{l:List Int}{v:Value}{bad:Nat->Prop}(h:w.ownsRow base 3 1 v l.length (l.map (Value.int .i64)))(hb:∀b,v.ownBlock=some b->¬bad b):eO noβ [] w bad (.d (.list (.int .i64)) l) v []:=by
 rcases h.2 with⟨rfl,hn⟩|⟨g,cap,cur,rfl,h2,h3,h4,h5,h6,h7⟩
 .have:l=[]:=List.eq_nil_of_length_eq_zero hn
  subst this
  exact ij
 .exact CK rfl h4 (hb g rfl) fun j x hx=>by
   have:=h.cells (g:=g) rfl j (.int .i64 x) (by rw[List.getElem?_map,hx];rfl)
   rwa [Go.Proofs.YtfjpfjnepdhnaaaGreat.R.add_plain rfl]at this
def conB(i n:Int)(l:LP):Bool:=decide (0<=i)&&decide (i<=1000)&&decide (l.length<=1000)&&decide (0<=n)&&decide (n<=3000)&&decide (i+(l.length:Int)<=n)
def askG(i:Int)(l a:LP)(p q:List Int)(g:List Int):Option gB:=if sE i l a p q g=true then some (wB i l a p q g).1 else none
def endG:Option (List Int×gB)->Option (List Int×gB×Int)
 |some (l,x)=>some (l,x,0)
 |none=>none
def conAns(C:bC):List AV->Option (List Int×gB×Int)
 |[.agg [.d (.int .i64) i,.d (.list (.pair (.int .i64) (.int .i64))) l,.d (.list (.pair (.int .i64) (.int .i64))) a,.d (.list (.int .i64)) p,.d (.list (.int .i64)) q]]=>
  match C 48 [bU i l a p q] [.d (.int .i64),.d (.int .i64)]with
  |some r=>if(show Int×Int from r).2≠0 then some ([],sK,(show Int×Int from r).2)
   else if conB i (show Int×Int from r).1 l=true/\(show Int×Int from r).1=i+(List.length (α:=Int×Int) l:Int)+(List.length (α:=Int×Int) a:Int) then
    match C 69 [.d (.int .u64) (1:Int),.d (.int .u64) ((show Int×Int from r).1+1)] [.d (.int .u64),.d (.int .u64)]with
    |some m=>if(show Int×Int from m)=((0:Int),(show Int×Int from r).1+1) then endG (cndF (askG i l a p q) i l ((show Int×Int from r).1.toNat+1) (List.length (α:=Int×Int) l+2) (iniC l (List.length (α:=Int×Int) l))) else none
    |none=>none
   else none
  |none=>none
 |_=>none
def conRun(C:bC)(xs:List AV):(s:List Sh)->Option (eU s)
 |[.d (.list (.int .i64)),.agg (.d (.int .i64)) (.agg (.d (.list (.pair (.int .i64) (.int .i64)))) (.agg (.d (.list (.pair (.int .i64) (.int .i64)))) (.agg (.d (.list (.int .i64))) (.d (.list (.int .i64)))))),.d (.int .i64)]=>conAns C xs
 |_=>none
theorem conAns_near{C:bC}{Cn:Nat->bC}(h:xf C Cn){xs:List AV}{z:List Int×gB×Int}(hz:conAns C xs=some z):∃n,∀m,n<=m->conAns (Cn m) xs=some z:=by
 unfold conAns at hz
 split at hz
 .rename_i i l a p q
  split at hz
  .rename_i r hr
   obtain⟨n1,hn1⟩:=h _ _ _ _ hr
   split at hz
   .rename_i h1
    exact⟨n1,fun m hm=>by simp only[conAns,hn1 m hm];rw[if_pos h1];exact hz⟩
   .rename_i h1
    split at hz
    .rename_i h2
     split at hz
     .rename_i u hu
      obtain⟨n2,hn2⟩:=h _ _ _ _ hu
      split at hz
      .rename_i h3
       exact⟨max n1 n2,fun m hm=>by
        simp only[conAns,hn1 m (by omega)]
        rw[if_neg h1,if_pos h2]
        simp only[hn2 m (by omega)]
        rw[if_pos h3]
        exact hz⟩
      .cases hz
     .cases hz
    .cases hz
  .cases hz
 .cases hz
def conHK:HK where
 run:=conRun
 near:=by
  intro C Cn h xs s z hz
  unfold conRun at hz
  split at hz
  .exact conAns_near h hz
  .cases hz
set_option maxRecDepth 1000000 in
set_option maxHeartbeats 4000000 in
theorem con_err(i n ez:Int)(l c1 n2 c2 n3 c3 n4 c4:Nat)(A1 A2 A3 A4:Option Addr)(w:World)(her:ez≠0)
  (hV:∀W,Below w.heap.size w W->Calls Tryz.prog 48 #[.agg #[.int .i64 i,.slice A1 l c1,.slice A2 n2 c2,.slice A3 n3 c3,.slice A4 n4 c4]] W fun e w'=>e = .returned (.tuple #[.int .i64 n,.int .i64 ez])/\Below W.heap.size W w') :
  Calls Tryz.prog 31 #[.agg #[.int .i64 i,.slice A1 l c1,.slice A2 n2 c2,.slice A3 n3 c3,.slice A4 n4 c4]] w fun e w'=>e = .returned (.tuple #[.slice none 0 0,zeroV,.int .i64 ez])/\Below w.heap.size w w':=by
 have hb1':Below w.heap.size w ((w.alloc (.cells #[.int .i64 i,.slice A1 l c1,.slice A2 n2 c2,.slice A3 n3 c3,.slice A4 n4 c4] 26)).alloc (.cells #[.int .i64 0,.slice none 0 0,.slice none 0 0,.slice none 0 0,.slice none 0 0] 26)):=((Below.refl _ w).alloc (Nat.le_refl _) _).alloc (by simp) _
 have R0:=hV _ hb1'
 have KB:=Hd.mk hb1'
 clear hb1' hV
 have fin:∀(w1:World),Below ((w.alloc (.cells #[.int .i64 i,.slice A1 l c1,.slice A2 n2 c2,.slice A3 n3 c3,.slice A4 n4 c4] 26)).alloc (.cells #[.int .i64 0,.slice none 0 0,.slice none 0 0,.slice none 0 0,.slice none 0 0] 26)).heap.size ((w.alloc (.cells #[.int .i64 i,.slice A1 l c1,.slice A2 n2 c2,.slice A3 n3 c3,.slice A4 n4 c4] 26)).alloc (.cells #[.int .i64 0,.slice none 0 0,.slice none 0 0,.slice none 0 0,.slice none 0 0] 26)) w1 ->
   w1.heap[w.heap.size+1]?=some (.cells #[.int .i64 0,.slice none 0 0,.slice none 0 0,.slice none 0 0,.slice none 0 0] 26 (0,0))/\Below w.heap.size w w1:=fun w1 hb=>by
  refine⟨(hb.block _ (by simp)).trans (by rw[show w.heap.size+1=(w.alloc (.cells #[.int .i64 i,.slice A1 l c1,.slice A2 n2 c2,.slice A3 n3 c3,.slice A4 n4 c4] 26)).heap.size by simp];exact Array.getElem?_push_size),KB.out.trans (hb.mono (by simp;omega))⟩
 have KF:=Hd.mk fin
 clear fin
 have h0':(ez != 0)=true:=by simp[her]
 clear her
 go_enter Tryz.func31,Tryz.ntmps31
 go_wp2_with (go_at_call 48;refine R0.mono ?_;rintro e w1 ⟨rfl,hb⟩;obtain⟨hR5,hbw⟩:=KF.out w1 hb;obtain⟨y0,y0',y1,y1',y2,y2',y3,y3',y4,y4',yN,yM,yQ⟩:=FQ w1 (w.heap.size+1) (.int .i64 0) (.slice none 0 0) (.slice none 0 0) (.slice none 0 0) (.slice none 0 0) _ _ _ _ _ hR5;have KN:=Hd.mk yN;have KM:=Hd.mk yM;have KQ:=Hd.mk yQ;have Kbw:=Hd.mk hbw;clear hb hR5 yN yM yQ hbw)
 clear y0 y0' y1 y1' y2 y2' y3 y3' y4 y4'
 have hset:pF w1 (w.heap.size+1) (.int .i64 0) (.slice none 0 0) (.slice none 0 0) (.slice none 0 0) (.slice none 0 0)=((((w1.setCell ⟨w.heap.size+1,0,none⟩ (.int .i64 0)).setCell ⟨w.heap.size+1,1,none⟩ (.slice none 0 0)).setCell ⟨w.heap.size+1,2,none⟩ (.slice none 0 0)).setCell ⟨w.heap.size+1,3,none⟩ (.slice none 0 0)).setCell ⟨w.heap.size+1,4,none⟩ (.slice none 0 0):=rfl
 rw[<-hset]
 clear hset
 generalize pF w1 (w.heap.size+1) (.int .i64 0) (.slice none 0 0) (.slice none 0 0) (.slice none 0 0) (.slice none 0 0)=WF at KN KM KQ ⊢
 refine bodyPost_ret (v:=.tuple #[.slice none 0 0,zeroV,.int .i64 ez]) (Bk rfl rfl rfl (run_loadVar_row _ _ 26 26 _ (0,0) _ KN.out Tryz.underlying26 rfl (by kernel_rfl)) rfl) rfl ?_
 exact⟨rfl,KQ.out.1.trans Kbw.out.os,KQ.out.2.1.trans Kbw.out.tape,KQ.out.2.2.1.trans Kbw.out.output,by rw[KQ.out.2.2.2];exact Kbw.out.size,fun j hj=>(KM.out j (by omega)).trans (Kbw.out.block j hj)⟩
def CVg(b0:Nat->Prop)(R G:Nat)(W:World)(x:gB)(xv:Value):Prop:=c9 noβ [] W (fun k=>b0 k\/k=R\/k=G) (bU x.1 x.2.1 x.2.2.1 x.2.2.2.1 x.2.2.2.2) xv []/\x.2.1.length<=1000
set_option maxHeartbeats 1000000 in
theorem con_core{E:Env}(h48:al E.sg 48=some ([.ro],[.d (.int .i64),.d (.int .i64)]))(h69:al E.sg 69=some ([.ro,.ro],[.d (.int .u64),.d (.int .u64)]))(hC1:DO 36 (.pair (.int .i64) (.int .i64)))(hC2:DO 38 (.int .i64))
  {C:bC} (hC:fP Tryz.prog E C) (i:Int) (l a:LP) (p q:List Int) (N:Nat) (hNs:(N:Int)=i+(l.length:Int)+(a.length:Int)) (la:List Int) (xa:gB)
  (h48a:C 48 [bU i l a p q] [.d (.int .i64),.d (.int .i64)]=some ((N:Int),(0:Int))) (h69a:C 69 [.d (.int .u64) (1:Int),.d (.int .u64) ((N+1:Nat):Int)] [.d (.int .u64),.d (.int .u64)]=some ((0:Int),((N+1:Nat):Int))) (hB:conB i (N:Int) l=true)
  (hz:cndF (askG i l a p q) i l (N+1) (l.length+2) (iniC l l.length)=some (la,xa))
  (b0:Nat->Prop) (w:World) (vs:List Value) (bs:List Nat) (hvs:Vs (c9 noβ [] w (fun b=>b0 b\/b∈bs)) [bU i l a p q] vs bs) (hb0:∀b,b0 b->b<w.heap.size) :
  Calls Tryz.prog 31 vs.toArray w fun e w'=>∃v,e = .returned v/\se b0 [.ro] [.d (.list (.int .i64)),xn,.d (.int .i64)] vs bs w w' ((la,xa,(0:Int)):List Int×gB×Int) v:=by
 obtain⟨i0,i1,l1,n0,n1,hin⟩:0<=i/\i<=1000/\l.length<=1000/\0<=(N:Int)/\(N:Int)<=3000/\i+(l.length:Int)<=(N:Int):=by
  simp only[conB,Bool.and_eq_true,decide_eq_true_eq]at hB
  obtain⟨⟨⟨⟨⟨h1,h2⟩,h3⟩,h4⟩,h5⟩,h6⟩:=hB
  exact⟨h1,h2,h3,h4,h5,h6⟩
 obtain⟨v1,vs1,c1,bs1,rfl,rfl,g1,hvs1⟩:=hvs.cons'
 obtain⟨rfl,rfl⟩:=hvs1.nil'
 obtain⟨rfl,u1,u2,u3,u4,rfl,k1,k2,k3,k4⟩:=zz g1
 obtain⟨A1,d1,rfl,-,at1⟩:=mb k1
 obtain⟨A2,d2,rfl,-,-⟩:=mb k2
 obtain⟨A3,d3,rfl,-,-⟩:=ints_at k3
 obtain⟨A4,d4,rfl,-,-⟩:=ints_at k4
 have hV:=Jz h48 hC h48a g1
 have hM:∀W,Below w.heap.size w W->Calls Tryz.prog 69 #[.int .u64 1,.int .u64 ((N+1:Nat):Int)] W fun e w'=>e = .returned (.tuple #[.int .u64 0,.int .u64 ((N+1:Nat):Int)])/\Below W.heap.size W w':=by
  intro W hb
  refine((hC 69 _ _ h69 _ _ h69a).2 (fun _=>False) W _ [] (.cons (b:=[]) (iy _ _) (.cons (b:=[]) (iy _ _) .nil)) List.nodup_nil (by simp) (fun _ h=>h.elim)).mono fun e w' h=>?_
  obtain⟨v,rfl,hres⟩:=h
  obtain⟨e1,e2,_,hbs,hv,_⟩:=hres.res
  obtain⟨us,rfl,hu⟩:=hv
  obtain⟨x1,y1,m1,n1,rfl,_,j1,hu⟩:=hu.cons'
  obtain⟨x2,y2,m2,n2,rfl,_,j2,hu⟩:=hu.cons'
  obtain⟨rfl,_⟩:=hu.nil'
  obtain⟨rfl,-⟩:=cP (β:=noβ) (ob:=[]) (w:=w') (show c9 noβ [] w' _ (.d (.int .u64) (0:Int)) x1 m1 from j1)
  obtain⟨rfl,-⟩:=cP (β:=noβ) (ob:=[]) (w:=w') (show c9 noβ [] w' _ (.d (.int .u64) ((N+1:Nat):Int)) x2 m2 from j2)
  exact⟨rfl,nQ hres.same (by simp)⟩
 have hBu:∀g x T G W,askG i l a p q g=some x->w.heap.size+2<=T->w.heap.size+1<=G->G<W.heap.size->G≠T->g.length=N+1->Flat W T 0 (N+1) g->Below w.heap.size w W ->
   Calls Tryz.prog 53 #[.agg #[.int .i64 i,.slice A1 l.length d1,.slice A2 a.length d2,.slice A3 p.length d3,.slice A4 q.length d4],.slice (some ⟨T,0,none⟩) (N+1) (N+1)] W fun e w'=>∃xv tv,e = .returned (.tuple #[xv,tv,.int .i64 0])/\Below W.heap.size W w'/\CVg b0 (w.heap.size+1) G w' x xv:=by
  intro g x T G W hx hT hG1 hG2 hGT hgl hF hb
  unfold askG at hx
  split at hx
  .rename_i hbb
   .cases hx
    have hTl:=hF.lt
    have hws:=hb.size
    refine(Jc h48 hC1 hC2 hC i l a p q g (hNs▸h48a) hbb (fun k=>b0 k\/k=w.heap.size+1\/k=G) W _ [] (.cons (b:=[]) (fY (fy hb) (fun _ _ h=>h.elim) (fun k hk h=>by
      rcases h with(h|h|h)|h
      .exact .inl h
      .omega
      .omega
      .cases h) (fun _ h=>by cases h) g1) (.cons (b:=[]) (show c9 noβ [] W _ (.d (.list (.int .i64)) g) (.slice (some ⟨T,0,none⟩) (N+1) (N+1)) [] from CK hgl.symm (Nat.le_refl _) (fun h=>by
      rcases h with(h|h|h)|h
      .have:=hb0 T h;omega
      .omega
      .omega
      .cases h) fun j x hx=>hF.cell hx) .nil)) (fun k h=>by
      rcases h with h|h|h
      .have:=hb0 k h;omega
      .omega
      .omega)).mono fun e w' h=>?_
    obtain⟨v,rfl,hres⟩:=h
    obtain⟨e1,e2,_,hbs,hv,_⟩:=hres.res
    obtain⟨us,rfl,hu⟩:=hv
    obtain⟨x1,y1,m1,q1,rfl,hm1,j1,hu⟩:=hu.cons'
    obtain⟨x2,y2,m2,q2,rfl,hm2,j2,hu⟩:=hu.cons'
    obtain⟨x3,y3,m3,q3,rfl,hm3,j3,hu⟩:=hu.cons'
    obtain⟨rfl,_⟩:=hu.nil'
    obtain⟨rfl,-⟩:=cP (β:=noβ) (ob:=[]) (w:=w') (show c9 noβ [] w' _ (.d (.int .i64) (0:Int)) x3 m3 from j3)
    have j1':c9 noβ [] w' (fun k=>(b0 k\/k=w.heap.size+1\/k=G)\/k∈e1++e2) (bU (wB i l a p q g).1.1 (wB i l a p q g).1.2.1 (wB i l a p q g).1.2.2.1 (wB i l a p q g).1.2.2.2.1 (wB i l a p q g).1.2.2.2.2) x1 m1:=j1
    obtain rfl:m1=[]:=sv j1' rfl
    exact⟨_,_,rfl,nQ hres.same (by simp),fY (bad0:=fun _=>False) (bM.refl _ w') (fun _ _ h=>h.elim) (fun k _ h=>.inl h) (fun _ h=>by cases h) j1',by show(List.map _ l).length<=1000;rw[List.length_map];exact l1⟩
  .cases hx
 have hCV:∀G W W' x xv,CVg b0 (w.heap.size+1) G W x xv->bM (fun k=>k=w.heap.size+1\/k=G) W W'->CVg b0 (w.heap.size+1) G W' x xv:=fun G W W' x xv h hs=>
  ⟨fY hs (fun k _ hk=>.inr hk) (fun k _ hk=>hk) (fun _ h=>by cases h) h.1,h.2⟩
 have hCx:∀G W x xv,CVg b0 (w.heap.size+1) G W x xv->∃B1 B2 B3 B4 d1 m2 d2 m3 d3 m4 d4,xv = .agg #[.int .i64 x.1,.slice B1 x.2.1.length d1,.slice B2 m2 d2,.slice B3 m3 d3,.slice B4 m4 d4]/\x.2.1.length<=1000 /\
   ∀(j:Nat) (p:Int×Int),x.2.1[j]?=some p->∃b o,B1=some ⟨b,o,none⟩/\b≠G/\b<W.heap.size/\W.cell? ⟨b,o+j*2,none⟩=some (.int .i64 p.1)/\W.cell? ⟨b,o+j*2+1,none⟩=some (.int .i64 p.2):=by
  intro G W x xv h
  obtain⟨-,u1,u2,u3,u4,rfl,j1,j2,j3,j4⟩:=zz h.1
  obtain⟨B1,e1,rfl,-,at1⟩:=mb j1
  obtain⟨B2,e2,rfl,-,-⟩:=mb j2
  obtain⟨B3,e3,rfl,-,-⟩:=ints_at j3
  obtain⟨B4,e4,rfl,-,-⟩:=ints_at j4
  refine⟨B1,B2,B3,B4,e1,_,e2,_,e3,_,e4,rfl,h.2,fun j p hp=>?_⟩
  obtain⟨b,o,rfl,h2,h3⟩:=at1 j p hp
  exact⟨b,o,rfl,fun e=>pairs_not j1 hp (.inr (.inr e)),h2,h3⟩
 refine(con_walk i N l.length d1 a.length d2 p.length d3 q.length d4 A1 A2 A3 A4 l w (CVg b0 (w.heap.size+1)) (askG i l a p q) la xa (l.length+2) i0 i1 l1 (by omega) hin rfl at1 hV hM hBu hCV hCx hz).mono ?_
 have hnb:∀k,w.heap.size<=k->¬((fun k=>b0 k\/k∈([]:List Nat)++[]) k):=fun k hk h=>by
  rcases h with h|h
  .have:=hb0 k h;omega
  .cases h
 rintro e w' ⟨v,xv,rfl,hbel,hown,G,hcv⟩
 have y1:eO noβ [] w' (fun k=>b0 k\/k∈([]:List Nat)++[]) (.d (.list (.int .i64)) la) v []:=own_intsG hown fun k hk=>hnb k (by have:=(hown.lt k hk).1;omega)
 have y2:c9 noβ [] w' (fun k=>b0 k\/k∈([]:List Nat)++[]) (bU xa.1 xa.2.1 xa.2.2.1 xa.2.2.2.1 xa.2.2.2.2) xv []:=fY (bad0:=fun _=>False) (bM.refl _ w') (fun _ _ h=>h.elim) (fun k _ h=>by
  rcases h with h|h
  .exact .inl h
  .cases h) (fun _ h=>by cases h) hcv.1
 refine⟨_,rfl,⟨(fy hbel).mono fun _ _ h=>h.elim,[],[],by simp,by simp,?_,.nil⟩⟩
 exact⟨[_,_,.int .i64 0],rfl,Vs.cons (b:=[]) (a:=.d (.list (.int .i64)) la) y1 (.cons (b:=[]) y2 (.cons (b:=[]) (a:=.d (.int .i64) 0) (iy (β:=noβ) (ob:=[]) .i64 0) .nil))⟩
theorem con_core_err{E:Env}(h48:al E.sg 48=some ([.ro],[.d (.int .i64),.d (.int .i64)])){C:bC}(hC:fP Tryz.prog E C)(i:Int)(l a:LP)(p q:List Int)(n ez:Int)
  (h48a:C 48 [bU i l a p q] [.d (.int .i64),.d (.int .i64)]=some (n,ez)) (her:ez≠0)
  (b0:Nat->Prop) (w:World) (vs:List Value) (bs:List Nat) (hvs:Vs (c9 noβ [] w (fun b=>b0 b\/b∈bs)) [bU i l a p q] vs bs) :
  Calls Tryz.prog 31 vs.toArray w fun e w'=>∃v,e = .returned v/\se b0 [.ro] [.d (.list (.int .i64)),xn,.d (.int .i64)] vs bs w w' (([],sK,ez):List Int×gB×Int) v:=by
 obtain⟨v1,vs1,c1,bs1,rfl,rfl,g1,hvs1⟩:=hvs.cons'
 obtain⟨rfl,rfl⟩:=hvs1.nil'
 obtain⟨rfl,u1,u2,u3,u4,rfl,k1,k2,k3,k4⟩:=zz g1
 obtain⟨A1,d1,rfl,-,at1⟩:=mb k1
 obtain⟨A2,d2,rfl,-,-⟩:=mb k2
 obtain⟨A3,d3,rfl,-,-⟩:=ints_at k3
 obtain⟨A4,d4,rfl,-,-⟩:=ints_at k4
 have hV:=Jz h48 hC h48a g1
 refine(con_err i n ez l.length d1 a.length d2 p.length d3 q.length d4 A1 A2 A3 A4 w her hV).mono ?_
 rintro e w' ⟨rfl,hbel⟩
 refine⟨_,rfl,⟨(fy hbel).mono fun _ _ h=>h.elim,[],[],by simp,by simp,?_,.nil⟩⟩
 exact⟨[_,_,.int .i64 ez],rfl,Vs.cons (b:=[]) (a:=.d (.list (.int .i64)) []) ij (.cons (b:=[]) (FP (i:=0) ij ij ij ij) (.cons (b:=[]) (a:=.d (.int .i64) ez) (iy (β:=noβ) (ob:=[]) .i64 ez) .nil))⟩
theorem conDo{E:Env}(h31:al E.sg 31=some ([.ro],[.d (.list (.int .i64)),xn,.d (.int .i64)]))(h48:al E.sg 48=some ([.ro],[.d (.int .i64),.d (.int .i64)]))(h69:al E.sg 69=some ([.ro,.ro],[.d (.int .u64),.d (.int .u64)]))(hC1:DO 36 (.pair (.int .i64) (.int .i64)))(hC2:DO 38 (.int .i64)):LH Tryz.prog E 31 conHK:=by
 intro C hC ms rs hsg xs r hans b0 w vs bs hvs hnd hbs hb0
 rw[h31]at hsg
 cases hsg
 have hans':conAns C xs=some r:=hans
 clear hans
 unfold conAns at hans'
 split at hans'
 .rename_i i l a p q
  split at hans'
  .rename_i r48 h1
   obtain⟨n,e⟩:=r48
   split at hans'
   .rename_i he
    cases hans'
    exact con_core_err h48 hC i l a p q n e h1 he b0 w vs bs hvs
   .rename_i he
    have e1':e=0:=Decidable.not_not.1 he
    subst e1'
    split at hans'
    .rename_i hBs
     obtain⟨hB,hNs⟩:=hBs
     split at hans'
     .rename_i m hm
      split at hans'
      .rename_i hm2
       have hn0:0<=(show Int from n):=by
        simp only[conB,Bool.and_eq_true,decide_eq_true_eq]at hB
        exact hB.1.1.2
       obtain⟨N,hN⟩:=Int.eq_ofNat_of_zero_le hn0
       have hN':n=((N:Nat):Int):=hN
       subst hN'
       have hm3:=hm.trans (congrArg some hm2)
       cases hf:cndF (askG i l a p q) i l (N+1) (List.length (α:=Int×Int) l+2) (iniC l (List.length (α:=Int×Int) l)) with
       |none=>
        have e0:endG (cndF (askG i l a p q) i l (N+1) (List.length (α:=Int×Int) l+2) (iniC l (List.length (α:=Int×Int) l)))=some r:=hans'
        rw[hf]at e0;cases e0
       |some y=>
        obtain⟨la,xa⟩:=y
        have e0:endG (cndF (askG i l a p q) i l (N+1) (List.length (α:=Int×Int) l+2) (iniC l (List.length (α:=Int×Int) l)))=some r:=hans'
        rw[hf]at e0
        cases e0
        exact con_core h48 h69 hC1 hC2 hC i l a p q N hNs la xa h1 hm3 hB hf b0 w vs bs hvs hb0
      .cases hans'
     .cases hans'
    .cases hans'
  .cases hans'
 .cases hans'
end
end Go.Proofs.YtfjpfjnepdhnaaaGreat

