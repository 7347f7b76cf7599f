/- . -/
import Derived.Test.YtjkoadoekaplpaaGreatW4
import Derived.Test.YtjkoadoekaplpaaGreatS
namespace Go.Proofs.YtjkoadoekaplpaaGreat
open Go Go.RowKit Go.Proofs.YtjkoadoekaplpaaGreat.R
set_option linter.unusedVariables false
set_option linter.unusedSimpArgs false
section
def insL(n:Nat):List Int:=(List.range n).map fun(k:Nat)=>2*((k:Int)+1)
def firL(i:Int)(n:Nat):List Int:=(List.range n).map fun(k:Nat)=>2*(i+1+(k:Int))
theorem cKo(n:Nat):insL (n+1)=insL n++[2*((n:Int)+1)]:=by simp[insL,List.range_succ]
theorem cK0(i:Int)(n:Nat):firL i (n+1)=firL i n++[2*(i+1+(n:Int))]:=by simp[firL,List.range_succ]
theorem cHw(n:Nat):(insL n).length=n:=by simp[insL]
theorem bVk(i:Int)(n:Nat):(firL i n).length=n:=by simp[firL]
theorem info24:∃i:TypeInfo,Tryz.prog.info? 24=some i/\i.zero=some (.slice none 0 0)/\i.size=1/\i.bytes=24:=by
 have h1:(Tryz.prog.info? 24).map (fun i=>(i.size,i.bytes))=some (1,24):=by kernel_rfl
 have h2:(Tryz.prog.info? 24).bind (fun i=>i.zero)=some (.slice none 0 0):=by kernel_rfl
 cases h:Tryz.prog.info? 24 with
 |none=>rw[h]at h1;cases h1
 |some i=>
  rw[h]at h1 h2
  simp only[Option.map_some,Option.some.injEq,Prod.mk.injEq,Option.bind_some]at h1 h2
  exact⟨i,rfl,h2,h1.1,h1.2⟩
theorem cKd(W:World):(Instr.makeSlice 35 (.int .i64 1) (.int .i64 1)).run Tryz.prog W = .ok (.slice (some ⟨W.heap.size,0,none⟩) 1 1) (W.alloc (.cells #[.slice none 0 0] 24)):=by
 obtain⟨i0,hi,hz0,hz1,hz2⟩:=info24
 have:=run_make (P:=Tryz.prog) W 35 24 i0 _ Tryz.underlying35 hi hz0 .i64 .i64 1 1 (by omega) (by omega) (by rw[hz2];omega) (by omega)
 rw[this,hz1]
 have hm:madeCells (Value.slice none 0 0).cells (Int.toNat 1*1) = #[.slice none 0 0]:=by kernel_rfl
 rw[hm]
 rfl
theorem bX6{w:World}{base n:Nat}{l:List Int}{v:Value}{bad:Nat->Prop}(h:w.ownsRow base 3 1 v n (l.map (Value.int .i64)))(hn:n=l.length)(hb:∀b,v.ownBlock=some b->¬bad b):VR0 noβ [] w bad (.d (.list (.int .i64)) l) v []:=by
 rcases h.2 with⟨rfl,h0⟩|⟨g,cap,cur,rfl,h2,h3,h4,h5,h6,h7⟩
 .have:l=[]:=List.eq_nil_of_length_eq_zero (by omega)
  subst this
  exact bLj
 .refine bSf hn h4 (hb g rfl) fun j x hx=>?_
  have hv:(l.map (Value.int .i64))[j]?=some (.int .i64 x):=by rw[List.getElem?_map,hx];rfl
  rw[<-h7,List.getElem?_take]at hv
  split at hv
  .rw[cell_of h3,Nat.zero_add];simpa using hv
  .cases hv
theorem cJv(hC:ClOk 41 (.int .i64)){w:World}{base n:Nat}{l:List Int}{v:Value}(h:w.ownsRow base 3 1 v n (l.map (Value.int .i64)))(hn:n=l.length)(hl:n<=1000):Calls Tryz.prog 41 #[v] w (bHy w 1 n l):=by
 have k:=bX6 (bad:=fun _=>False) h hn (fun _ _ h=>h)
 subst hn
 rcases h.2 with⟨rfl,h0⟩|⟨g,cap,cur,rfl,_⟩
 .have:l=[]:=List.eq_nil_of_length_eq_zero h0
  subst this
  exact cFo hC (l:=[]) k hl w (Below.refl _ _)
 .exact cFo hC k hl w (Below.refl _ _)
theorem cGn(w:World)(a:Addr)(v:Value):(w.setCell a v).os=w.os:=rfl
theorem tape_setCell(w:World)(a:Addr)(v:Value):(w.setCell a v).tape=w.tape:=rfl
theorem bVp(w:World)(a:Addr)(v:Value):(w.setCell a v).output=w.output:=rfl
theorem chain7(W:World)(R:Nat)(v0 v1 v2 v3 v4 v5 v6 z0 z1 z2 z3 z4 z5 z6:Value)(g0:W.heap[R]?=some (.cells #[z0,z1,z2,z3,z4,z5,z6] 39 (0,0))):
  W.cell? ⟨R,0,none⟩=some z0 /\
  W.frozen? ⟨R,0,none⟩=false /\
  (W.setCell ⟨R,0,none⟩ v0).cell? ⟨R,1,none⟩=some z1 /\
  (W.setCell ⟨R,0,none⟩ v0).frozen? ⟨R,1,none⟩=false /\
  ((W.setCell ⟨R,0,none⟩ v0).setCell ⟨R,1,none⟩ v1).cell? ⟨R,2,none⟩=some z2 /\
  ((W.setCell ⟨R,0,none⟩ v0).setCell ⟨R,1,none⟩ v1).frozen? ⟨R,2,none⟩=false /\
  (((W.setCell ⟨R,0,none⟩ v0).setCell ⟨R,1,none⟩ v1).setCell ⟨R,2,none⟩ v2).cell? ⟨R,3,none⟩=some z3 /\
  (((W.setCell ⟨R,0,none⟩ v0).setCell ⟨R,1,none⟩ v1).setCell ⟨R,2,none⟩ v2).frozen? ⟨R,3,none⟩=false /\
  ((((W.setCell ⟨R,0,none⟩ v0).setCell ⟨R,1,none⟩ v1).setCell ⟨R,2,none⟩ v2).setCell ⟨R,3,none⟩ v3).cell? ⟨R,4,none⟩=some z4 /\
  ((((W.setCell ⟨R,0,none⟩ v0).setCell ⟨R,1,none⟩ v1).setCell ⟨R,2,none⟩ v2).setCell ⟨R,3,none⟩ v3).frozen? ⟨R,4,none⟩=false /\
  (((((W.setCell ⟨R,0,none⟩ v0).setCell ⟨R,1,none⟩ v1).setCell ⟨R,2,none⟩ v2).setCell ⟨R,3,none⟩ v3).setCell ⟨R,4,none⟩ v4).cell? ⟨R,5,none⟩=some z5 /\
  (((((W.setCell ⟨R,0,none⟩ v0).setCell ⟨R,1,none⟩ v1).setCell ⟨R,2,none⟩ v2).setCell ⟨R,3,none⟩ v3).setCell ⟨R,4,none⟩ v4).frozen? ⟨R,5,none⟩=false /\
  ((((((W.setCell ⟨R,0,none⟩ v0).setCell ⟨R,1,none⟩ v1).setCell ⟨R,2,none⟩ v2).setCell ⟨R,3,none⟩ v3).setCell ⟨R,4,none⟩ v4).setCell ⟨R,5,none⟩ v5).cell? ⟨R,6,none⟩=some z6 /\
  ((((((W.setCell ⟨R,0,none⟩ v0).setCell ⟨R,1,none⟩ v1).setCell ⟨R,2,none⟩ v2).setCell ⟨R,3,none⟩ v3).setCell ⟨R,4,none⟩ v4).setCell ⟨R,5,none⟩ v5).frozen? ⟨R,6,none⟩=false /\
  (((((((W.setCell ⟨R,0,none⟩ v0).setCell ⟨R,1,none⟩ v1).setCell ⟨R,2,none⟩ v2).setCell ⟨R,3,none⟩ v3).setCell ⟨R,4,none⟩ v4).setCell ⟨R,5,none⟩ v5).setCell ⟨R,6,none⟩ v6).heap[R]?=some (.cells #[v0,v1,v2,v3,v4,v5,v6] 39 (0,0)) /\
  (∀k,k≠R->(((((((W.setCell ⟨R,0,none⟩ v0).setCell ⟨R,1,none⟩ v1).setCell ⟨R,2,none⟩ v2).setCell ⟨R,3,none⟩ v3).setCell ⟨R,4,none⟩ v4).setCell ⟨R,5,none⟩ v5).setCell ⟨R,6,none⟩ v6).heap[k]?=W.heap[k]?) /\
  (((((((W.setCell ⟨R,0,none⟩ v0).setCell ⟨R,1,none⟩ v1).setCell ⟨R,2,none⟩ v2).setCell ⟨R,3,none⟩ v3).setCell ⟨R,4,none⟩ v4).setCell ⟨R,5,none⟩ v5).setCell ⟨R,6,none⟩ v6).os=W.os/\(((((((W.setCell ⟨R,0,none⟩ v0).setCell ⟨R,1,none⟩ v1).setCell ⟨R,2,none⟩ v2).setCell ⟨R,3,none⟩ v3).setCell ⟨R,4,none⟩ v4).setCell ⟨R,5,none⟩ v5).setCell ⟨R,6,none⟩ v6).tape=W.tape/\(((((((W.setCell ⟨R,0,none⟩ v0).setCell ⟨R,1,none⟩ v1).setCell ⟨R,2,none⟩ v2).setCell ⟨R,3,none⟩ v3).setCell ⟨R,4,none⟩ v4).setCell ⟨R,5,none⟩ v5).setCell ⟨R,6,none⟩ v6).output=W.output/\(((((((W.setCell ⟨R,0,none⟩ v0).setCell ⟨R,1,none⟩ v1).setCell ⟨R,2,none⟩ v2).setCell ⟨R,3,none⟩ v3).setCell ⟨R,4,none⟩ v4).setCell ⟨R,5,none⟩ v5).setCell ⟨R,6,none⟩ v6).heap.size=W.heap.size:=by
 have g1:(W.setCell ⟨R,0,none⟩ v0).heap[R]?=some (.cells #[v0,z1,z2,z3,z4,z5,z6] 39 (0,0)):=by
  have:=bBb (u:=v0) g0 (o:=0) (by simp)
  simpa using this
 have g2:((W.setCell ⟨R,0,none⟩ v0).setCell ⟨R,1,none⟩ v1).heap[R]?=some (.cells #[v0,v1,z2,z3,z4,z5,z6] 39 (0,0)):=by
  have:=bBb (u:=v1) g1 (o:=1) (by simp)
  simpa using this
 have g3:(((W.setCell ⟨R,0,none⟩ v0).setCell ⟨R,1,none⟩ v1).setCell ⟨R,2,none⟩ v2).heap[R]?=some (.cells #[v0,v1,v2,z3,z4,z5,z6] 39 (0,0)):=by
  have:=bBb (u:=v2) g2 (o:=2) (by simp)
  simpa using this
 have g4:((((W.setCell ⟨R,0,none⟩ v0).setCell ⟨R,1,none⟩ v1).setCell ⟨R,2,none⟩ v2).setCell ⟨R,3,none⟩ v3).heap[R]?=some (.cells #[v0,v1,v2,v3,z4,z5,z6] 39 (0,0)):=by
  have:=bBb (u:=v3) g3 (o:=3) (by simp)
  simpa using this
 have g5:(((((W.setCell ⟨R,0,none⟩ v0).setCell ⟨R,1,none⟩ v1).setCell ⟨R,2,none⟩ v2).setCell ⟨R,3,none⟩ v3).setCell ⟨R,4,none⟩ v4).heap[R]?=some (.cells #[v0,v1,v2,v3,v4,z5,z6] 39 (0,0)):=by
  have:=bBb (u:=v4) g4 (o:=4) (by simp)
  simpa using this
 have g6:((((((W.setCell ⟨R,0,none⟩ v0).setCell ⟨R,1,none⟩ v1).setCell ⟨R,2,none⟩ v2).setCell ⟨R,3,none⟩ v3).setCell ⟨R,4,none⟩ v4).setCell ⟨R,5,none⟩ v5).heap[R]?=some (.cells #[v0,v1,v2,v3,v4,v5,z6] 39 (0,0)):=by
  have:=bBb (u:=v5) g5 (o:=5) (by simp)
  simpa using this
 have g7:(((((((W.setCell ⟨R,0,none⟩ v0).setCell ⟨R,1,none⟩ v1).setCell ⟨R,2,none⟩ v2).setCell ⟨R,3,none⟩ v3).setCell ⟨R,4,none⟩ v4).setCell ⟨R,5,none⟩ v5).setCell ⟨R,6,none⟩ v6).heap[R]?=some (.cells #[v0,v1,v2,v3,v4,v5,v6] 39 (0,0)):=by
  have:=bBb (u:=v6) g6 (o:=6) (by simp)
  simpa using this
 exact⟨by simp only[World.cell?,g0];rfl,
  by simp only[World.frozen?,g0];rfl,
  by simp only[World.cell?,g1];rfl,
  by simp only[World.frozen?,g1];rfl,
  by simp only[World.cell?,g2];rfl,
  by simp only[World.frozen?,g2];rfl,
  by simp only[World.cell?,g3];rfl,
  by simp only[World.frozen?,g3];rfl,
  by simp only[World.cell?,g4];rfl,
  by simp only[World.frozen?,g4];rfl,
  by simp only[World.cell?,g5];rfl,
  by simp only[World.frozen?,g5];rfl,
  by simp only[World.cell?,g6];rfl,
  by simp only[World.frozen?,g6];rfl,
  g7,
  fun k hk=>by rw[Below.heap_setCell _ _ _ _ (by exact hk),Below.heap_setCell _ _ _ _ (by exact hk),Below.heap_setCell _ _ _ _ (by exact hk),Below.heap_setCell _ _ _ _ (by exact hk),Below.heap_setCell _ _ _ _ (by exact hk),Below.heap_setCell _ _ _ _ (by exact hk),Below.heap_setCell _ _ _ _ (by exact hk)],
  by simp only[cGn],by simp only[tape_setCell],by simp only[bVp],by simp⟩
theorem res_ct{P:Program}{fn:Func}{tmps:Array Value}{a b:Tmp}{t:TypeId}(h:fn.results = #[.cell a t,.tmp b]){p:Addr}{v vb:Value}{w:World}(hp:tmps.getD a undef = .pointer (some p))(hl:(loadVar t p).run P w = .ok v w)(hb:tmps.getD b undef=vb):
  (results fn tmps).run P w = .ok (.tuple #[v,vb]) w:=by
 rw[Array.getD_eq_getD_getElem?]at hp hb
 simp[results,h,hp,hl,hb,asAddr]
theorem bPo{w w':World}{base n:Nat}{v:Value}{xs:List Value}(h:w.ownsRow base 3 1 v n xs)(hb:∀g,v.ownBlock=some g->w'.heap[g]?=w.heap[g]?):w'.ownsRow base 3 1 v n xs:=by
 refine⟨h.1,?_⟩
 rcases h.2 with h|⟨g,cap,cur,rfl,h2,h3,h4⟩
 .exact .inl h
 .exact .inr ⟨g,cap,cur,rfl,h2,(hb g rfl).trans h3,h4⟩
def IdEnd(i:Int)(l:Nat)(w:World)(e:Ending)(w':World):Prop:=
 ∃I0 vr vf vc,e = .returned (.tuple #[.agg #[.int .i64 0,.int .i64 1,vf,.slice (some ⟨I0,0,none⟩) 1 1,vc,.slice none 0 0,.int .i64 1],.int .i64 0])/\Below w.heap.size w w'/\w.heap.size<=I0/\w'.cell? ⟨I0,0,none⟩=some vr /\
  ∀bad:Nat->Prop,(∀b,w.heap.size<=b->¬bad b)->VR0 noβ [] w' bad (.d (.list (.int .i64)) (insL i.toNat)) vr []/\VR0 noβ [] w' bad (.d (.list (.int .i64)) (firL i l)) vf []/\VR0 noβ [] w' bad (.d (.list (.int .i64)) (firL i l)) vc []
structure I1(I0 L base:Nat)(W0:World)(n:Nat)(wr:World):Prop where
 row:∃vr,wr.heap[I0]?=some (.cells #[vr] 24 (0,0))/\wr.ownsRow base 3 1 vr n ((insL n).map (Value.int .i64))
 left:Left (fun k=>k=I0\/base<=k) W0 wr
theorem I1.push{I0 L base:Nat}{W0 wr wa w2:World}{n cap gg:Nat}{vr:Value}{u:Int}(h:I1 I0 L base W0 n wr)(hvr:wr.heap[I0]?=some (.cells #[vr] 24 (0,0)))(hob:∀k,vr.ownBlock=some k->base<=k)(hb:I0<base)(hs:base<=wr.heap.size)
  (ha:∀k,k<wr.heap.size->wa.heap[k]?=wr.heap[k]?) (hza:wr.heap.size<=wa.heap.size) (hw:wa.os=wr.os/\wa.tape=wr.tape/\wa.output=wr.output) (hown:w2.ownsRow base 3 1 (.slice (some ⟨gg,0,none⟩) (n+1) cap) (n+1) ((insL n).map (Value.int .i64)++[.int .i64 u])) (hu:u=2*((n:Int)+1))
  (hg:wa.grownBy w2 vr.ownBlock):I1 I0 L base W0 (n+1) (w2.setCell ⟨I0,0,none⟩ (.slice (some ⟨gg,0,none⟩) (n+1) cap)):=by
 have h1:w2.heap[I0]?=some (.cells #[vr] 24 (0,0)):=by
  rw[hg.block I0 (by omega) (fun e=>by have:=hob _ e.symm;omega),ha _ (by omega)];exact hvr
 have hgb:=(hown.lt gg rfl).1
 refine⟨⟨_,one_setCell h1,?_⟩,h.left.trans ⟨hg.os.trans hw.1,hg.tape.trans hw.2.1,hg.output.trans hw.2.2,by have:=hg.size;simp;omega,fun k hk hn=>?_⟩⟩
 .rw[cKo,List.map_append,<-hu]
  refine ownsRow_setCell_other hown (fun e=>?_) _
  have e':gg=I0:=by simpa[Value.ownBlock]using e
  omega
 .have hne:k≠I0:=fun e=>hn (.inl e)
  rw[Below.heap_setCell _ _ _ _ hne,hg.block k (by omega) (fun e=>hn (.inr (hob k e.symm))),ha k hk]
structure I2(I0 L base:Nat)(i:Int)(W0:World)(n:Nat)(wr:World):Prop where
 row:∃vf,wr.heap[L]?=some (.cells #[.int .i64 0,.int .i64 1,vf,.slice (some ⟨I0,0,none⟩) 1 1,.slice none 0 0,.slice none 0 0,.int .i64 1] 39 (0,0))/\wr.ownsRow base 3 1 vf n ((firL i n).map (Value.int .i64))
 left:Left (fun k=>k=L\/base<=k) W0 wr
theorem I2.push{I0 L base:Nat}{i:Int}{W0 wr wa w2:World}{n cap gg:Nat}{vf:Value}{u:Int}(h:I2 I0 L base i W0 n wr)(hvr:wr.heap[L]?=some (.cells #[.int .i64 0,.int .i64 1,vf,.slice (some ⟨I0,0,none⟩) 1 1,.slice none 0 0,.slice none 0 0,.int .i64 1] 39 (0,0)))(hob:∀k,vf.ownBlock=some k->base<=k)(hb:L<base)(hs:base<=wr.heap.size)
  (ha:∀k,k<wr.heap.size->wa.heap[k]?=wr.heap[k]?) (hza:wr.heap.size<=wa.heap.size) (hw:wa.os=wr.os/\wa.tape=wr.tape/\wa.output=wr.output) (hown:w2.ownsRow base 3 1 (.slice (some ⟨gg,0,none⟩) (n+1) cap) (n+1) ((firL i n).map (Value.int .i64)++[.int .i64 u])) (hu:u=2*(i+1+(n:Int)))
  (hg:wa.grownBy w2 vf.ownBlock):I2 I0 L base i W0 (n+1) (w2.setCell ⟨L,2,none⟩ (.slice (some ⟨gg,0,none⟩) (n+1) cap)):=by
 have h1:w2.heap[L]?=some (.cells #[.int .i64 0,.int .i64 1,vf,.slice (some ⟨I0,0,none⟩) 1 1,.slice none 0 0,.slice none 0 0,.int .i64 1] 39 (0,0)):=by
  rw[hg.block L (by omega) (fun e=>by have:=hob _ e.symm;omega),ha _ (by omega)];exact hvr
 have hgb:=(hown.lt gg rfl).1
 refine⟨⟨_,by have:=bBb (u:=.slice (some ⟨gg,0,none⟩) (n+1) cap) h1 (o:=2) (by simp);simpa using this,?_⟩,h.left.trans ⟨hg.os.trans hw.1,hg.tape.trans hw.2.1,hg.output.trans hw.2.2,by have:=hg.size;simp;omega,fun k hk hn=>?_⟩⟩
 .rw[cK0,List.map_append,<-hu]
  refine ownsRow_setCell_other hown (fun e=>?_) _
  have e':gg=L:=by simpa[Value.ownBlock]using e
  omega
 .have hne:k≠L:=fun e=>hn (.inl e)
  rw[Below.heap_setCell _ _ _ _ hne,hg.block k (by omega) (fun e=>hn (.inr (hob k e.symm))),ha k hk]
set_option maxRecDepth 1000000 in
set_option maxHeartbeats 4000000 in
theorem bYi(hC:ClOk 41 (.int .i64))(i:Int)(l c1 n2 c2 n3 c3 n4 c4:Nat)(A1 A2 A3 A4:Option Addr)(w:World)(i0:0<=i)(i1:i<=1000)(l1:l<=1000)
  (hK:∀W,Below w.heap.size w W->Calls Tryz.prog 37 #[.agg #[.int .i64 i,.slice A1 l c1,.slice A2 n2 c2,.slice A3 n3 c3,.slice A4 n4 c4]] W fun e w'=>e = .returned (.int .i64 0)/\Below W.heap.size W w') :
  Calls Tryz.prog 28 #[.agg #[.int .i64 i,.slice A1 l c1,.slice A2 n2 c2,.slice A3 n3 c3,.slice A4 n4 c4]] w (IdEnd i l w):=by
 have hb1':Below w.heap.size w ((w.alloc (.cells #[.int .i64 i,.slice A1 l c1,.slice A2 n2 c2,.slice A3 n3 c3,.slice A4 n4 c4] 26)).alloc (.cells #[.int .i64 0,.int .i64 0,.slice none 0 0,.slice none 0 0,.slice none 0 0,.slice none 0 0,.int .i64 0] 39)):=((Below.refl _ w).alloc (Nat.le_refl _) _).alloc (by simp) _
 have R0:=hK _ hb1'
 have KB:=Hd.mk hb1'
 clear hb1' hK
 have hmk:=cKd
 go_enter Tryz.func28,Tryz.ntmps28
 go_wp2_with (go_at_call 37;refine R0.mono ?_;rintro e w1 ⟨rfl,hb⟩;have K1:=Hd.mk hb;have hlt1:w.heap.size+1<w1.heap.size:=(by have:=hb.size;simp at this;omega);have hbox:w1.heap[w.heap.size]?=some (.cells #[.int .i64 i,.slice A1 l c1,.slice A2 n2 c2,.slice A3 n3 c3,.slice A4 n4 c4] 26 (0,0)):=(hb.block _ (by simp;omega)).trans ((Below.heap_alloc _ _ _ (by simp)).trans Array.getElem?_push_size);have e0:w1.cell? ⟨w.heap.size,0,none⟩=some (.int .i64 i):=(by simp[World.cell?,hbox]);have e1:w1.cell? ⟨w.heap.size,1,none⟩=some (.slice A1 l c1):=(by simp[World.cell?,hbox]);have KX:=Hd.mk hbox;have KRb:Hd (w1.heap[w.heap.size+1]?=some (.cells #[.int .i64 0,.int .i64 0,.slice none 0 0,.slice none 0 0,.slice none 0 0,.slice none 0 0,.int .i64 0] 39 (0,0))):=⟨(hb.block _ (by simp)).trans (by rw[show w.heap.size+1=(w.alloc (.cells #[.int .i64 i,.slice A1 l c1,.slice A2 n2 c2,.slice A3 n3 c3,.slice A4 n4 c4] 26)).heap.size by simp];exact Array.getElem?_push_size)⟩;clear hb hbox)
 clear hmk
 have hI0:((w1.alloc (.cells #[.slice none 0 0] 24)).alloc (.cells #[.int .i64 0,.int .i64 1,.slice none 0 0,.slice (some ⟨w1.heap.size,0,none⟩) 1 1,.slice none 0 0,.slice none 0 0,.int .i64 1] 39)).heap[w1.heap.size]?=some (.cells #[.slice none 0 0] 24 (0,0)):=(Below.heap_alloc _ _ _ (by simp)).trans Array.getElem?_push_size
 have hL0:((w1.alloc (.cells #[.slice none 0 0] 24)).alloc (.cells #[.int .i64 0,.int .i64 1,.slice none 0 0,.slice (some ⟨w1.heap.size,0,none⟩) 1 1,.slice none 0 0,.slice none 0 0,.int .i64 1] 39)).heap[w1.heap.size+1]?=some (.cells #[.int .i64 0,.int .i64 1,.slice none 0 0,.slice (some ⟨w1.heap.size,0,none⟩) 1 1,.slice none 0 0,.slice none 0 0,.int .i64 1] 39 (0,0)):=by
  have:w1.heap.size+1=(w1.alloc (.cells #[.slice none 0 0] 24)).heap.size:=by simp
  rw[this]
  exact Array.getElem?_push_size
 have hB0:Below w1.heap.size w1 ((w1.alloc (.cells #[.slice none 0 0] 24)).alloc (.cells #[.int .i64 0,.int .i64 1,.slice none 0 0,.slice (some ⟨w1.heap.size,0,none⟩) 1 1,.slice none 0 0,.slice none 0 0,.int .i64 1] 39)):=((Below.refl _ w1).alloc (Nat.le_refl _) _).alloc (by simp) _
 have hS0:((w1.alloc (.cells #[.slice none 0 0] 24)).alloc (.cells #[.int .i64 0,.int .i64 1,.slice none 0 0,.slice (some ⟨w1.heap.size,0,none⟩) 1 1,.slice none 0 0,.slice none 0 0,.int .i64 1] 39)).heap.size=w1.heap.size+2:=by simp
 generalize ((w1.alloc (.cells #[.slice none 0 0] 24)).alloc (.cells #[.int .i64 0,.int .i64 1,.slice none 0 0,.slice (some ⟨w1.heap.size,0,none⟩) 1 1,.slice none 0 0,.slice none 0 0,.int .i64 1] 39))=W0 at hI0 hL0 hB0 hS0 ⊢
 have hX0:=(hB0.block w.heap.size (by omega)).trans KX.out
 have KRb0:=Hd.mk ((hB0.block (w.heap.size+1) (by omega)).trans KRb.out)
 clear KRb
 generalize hM:w1.heap.size=M at hI0 hL0 hB0 hS0 hlt1 ⊢
 have KI0:=Hd.mk hI0;have KL0:=Hd.mk hL0;have KB0:=Hd.mk hB0;have KX0:=Hd.mk hX0;have HM:=Hd.mk hM;have HS:=Hd.mk hS0
 clear hI0 hL0 hB0 hX0 e0 e1 hM hS0
 obtain⟨i3,hi3,hz0,hz1,hz2⟩:=info3
 go_loopw [6] (fun c wr=>∃n:Nat,(n:Int)<=i/\c = .int .i64 ((n:Int)+1)/\I1 M (M+1) (M+2) W0 n wr) (fun c _=>i.toNat+1-(intOf c).toNat)
 case atStart=>exact⟨0,by omega,rfl,⟨_,KI0.out,World.ownsRow_nil _ _ _ _⟩,Left.refl _ _⟩
 case round=>
  obtain⟨n,hn,rfl,hI⟩:=hrel
  obtain⟨vr,hvr,hown⟩:=hI.row
  have hkeep:∀k,k<M+2->k≠M->wr.heap[k]?=W0.heap[k]?:=fun k h1 h2=>hI.left.block k (by rw[HS.out];exact h1) (by omega)
  have hLr:=(hkeep (M+1) (by omega) (by omega)).trans KL0.out
  have hXr:=(hkeep w.heap.size (by omega) (by omega)).trans KX0.out
  have e0:wr.cell? ⟨w.heap.size,0,none⟩=some (.int .i64 i):=by simp[World.cell?,hXr]
  have b3:wr.cell? ⟨M+1,3,none⟩=some (.slice (some ⟨M,0,none⟩) 1 1):=by simp[World.cell?,hLr]
  have rI:wr.cell? ⟨M,0,none⟩=some vr:=cell_of_one hvr
  have fI:wr.frozen? ⟨M,0,none⟩=false:=free_of_one hvr
  have hsz:M+2<=wr.heap.size:=by have:=hI.left.size;rw[HS.out]at this;exact this
  have KI:=Hd.mk hI;have KLr:=Hd.mk hLr;have KXr:=Hd.mk hXr;have Kvr:=Hd.mk hvr
  clear hI hLr hXr hkeep hvr
  by_cases hni:(n:Int)+1<=i
  .have aI:some M≠vr.ownBlock:=fun e=>by
    have:=(hown.lt _ e.symm).1
    omega
   have hob:∀k,vr.ownBlock=some k->M+2<=k:=fun k hk=>(hown.lt k hk).1
   have b3':∀(wa w2:World),(∀k,k<wr.heap.size->wa.heap[k]?=wr.heap[k]?)->wr.heap.size<=wa.heap.size->wa.grownBy w2 vr.ownBlock->w2.cell? ⟨M+1,3,none⟩=some (.slice (some ⟨M,0,none⟩) 1 1)/\w2.frozen? ⟨M,0,none⟩=false/\w2.cell? ⟨M,0,none⟩=some vr:=fun wa w2 ha hza hg=>by
    have h1:=(hg.block (M+1) (by omega) (fun e=>by have:=hob _ e.symm;omega)).trans (ha _ (by omega))
    have h2:=(hg.block M (by omega) aI).trans (ha _ (by omega))
    exact⟨(World.cell?_of_block (a:=⟨M+1,3,none⟩) h1).trans b3,(World.frozen?_of_block (a:=⟨M,0,none⟩) h2).trans fI,(World.cell?_of_block (a:=⟨M,0,none⟩) h2).trans rI⟩
   have hnew:∀(w:World) (o:Obj) (j:Nat),j=w.heap.size->(w.alloc o).heap[j]?=some o:=fun w o j hj=>by subst hj;exact Array.getElem?_push_size
   have rI2:∀o,(wr.drew.alloc o).cell? ⟨M,0,none⟩=some vr:=fun o=>(World.cell?_of_block (a:=⟨M,0,none⟩) (Below.heap_alloc wr.drew o M (by show M<wr.heap.size;omega))).trans rI
   have b32:∀o,(wr.drew.alloc o).cell? ⟨M+1,3,none⟩=some (.slice (some ⟨M,0,none⟩) 1 1):=fun o=>(World.cell?_of_block (a:=⟨M+1,3,none⟩) (Below.heap_alloc wr.drew o (M+1) (by show M+1<wr.heap.size;omega))).trans b3
   have rI3:∀o,(wr.alloc o).cell? ⟨M,0,none⟩=some vr:=rI2
   have b33:∀o,(wr.alloc o).cell? ⟨M+1,3,none⟩=some (.slice (some ⟨M,0,none⟩) 1 1):=b32
   have rI4:∀o,(wr.alloc o).drew.cell? ⟨M,0,none⟩=some vr:=rI2
   have b34:∀o,(wr.alloc o).drew.cell? ⟨M+1,3,none⟩=some (.slice (some ⟨M,0,none⟩) 1 1):=b32
   have HB:=Hd.mk b3'
   clear b3'
   go_wp2
   go_region_law
    ((refine step_append_lies _ (by rfl) _ _ _ (by rfl) (M+2) 3 i3 _ 1 8 Tryz.underlying24 hi3 hz0 hz1 hz2 rfl (by omega) vr n ((insL n).map (Value.int .i64)) (by rfl) (hown.alloc _) ⟨wr.heap.size,0,none⟩ 1 1 [.int .i64 (IntKind.i64.wrap (2*((n:Int)+1)))] (by rfl) (by rfl) (World.news_of_block (cs:=#[.int .i64 (IntKind.i64.wrap (2*((n:Int)+1)))]) (t:=3) (fr:=(0,0)) (hnew _ _ _ rfl)) (by simp[Value.oneCell']) (by omega) (by unfold maxLen;omega) (by omega) (by simp;omega) (wr.heap.size+1) (by simp) ?_;intro gg cap w2 hown2 hgrow hat hlt2;obtain⟨q1,q2,q3⟩:=HB.out _ w2 (by intro k hk;exact Below.heap_alloc wr _ k hk) (by show wr.heap.size<=(wr.heap.push _).size;simp) hgrow))
   all_goals
    have hI2:=KI.out.push (L:=M+1) Kvr.out hob (by omega) hsz (by intro k hk;exact Below.heap_alloc wr _ k hk) (by show wr.heap.size<=(wr.heap.push _).size;simp) (by exact⟨rfl,rfl,rfl⟩) hown2 (by rw[IntKind.wrap_i64];omega) hgrow
    have KI2:=Hd.mk hI2
    clear q1 q2 q3 hI2 rI2 rI3 rI4 b32 b33 b34 HB b3 rI fI e0 hgrow hown2 hown
    generalize w2.setCell ⟨M,0,none⟩ (.slice (some ⟨gg,0,none⟩) (n+1) cap)=wS at KI2 ⊢
    go_wp2
    all_goals go_roundw
    case rel=>exact⟨n+1,by omega,by go_num,KI2.out⟩
    case measure=>simp[intOf];omega
  .have hnE:(n:Int)=i:=by omega
   have e1:wr.cell? ⟨w.heap.size,1,none⟩=some (.slice A1 l c1):=by simp[World.cell?,KXr.out]
   have KO:=Hd.mk hown
   clear hown
   go_wp2
   clear e0 e1 b3 rI fI
   generalize wr=W2 at KI KLr KXr Kvr KO hsz ⊢
   go_loopw [37] (fun c wq=>∃m:Nat,m<=l/\c = .int .i64 (m:Int)/\I2 M (M+1) W2.heap.size i W2 m wq) (fun c _=>l-(intOf c).toNat)
   case atStart=>exact⟨0,Nat.zero_le _,rfl,⟨_,KLr.out,World.ownsRow_nil _ _ _ _⟩,Left.refl _ _⟩
   case round=>
    obtain⟨m,hm,rfl,hJ⟩:=hrel
    obtain⟨vf,hvf,hown⟩:=hJ.row
    have hkeep:∀k,k<W2.heap.size->k≠M+1->wr.heap[k]?=W2.heap[k]?:=fun k h1 h2=>hJ.left.block k h1 (by omega)
    have hXr:=(hkeep w.heap.size (by omega) (by omega)).trans KXr.out
    have e0:wr.cell? ⟨w.heap.size,0,none⟩=some (.int .i64 i):=by simp[World.cell?,hXr]
    have b2:wr.cell? ⟨M+1,2,none⟩=some vf:=by simp[World.cell?,hvf]
    have f2:wr.frozen? ⟨M+1,2,none⟩=false:=by simp[World.frozen?,hvf]
    have hsz2:W2.heap.size<=wr.heap.size:=hJ.left.size
    have KJ:=Hd.mk hJ;have KXq:=Hd.mk hXr;have Kvf:=Hd.mk hvf;have KK:=Hd.mk hkeep
    clear hJ hXr hkeep hvf
    by_cases hml:m<l
    .have aI:some (M+1)≠vf.ownBlock:=fun e=>by
      have:=(hown.lt _ e.symm).1
      omega
     have hob:∀k,vf.ownBlock=some k->W2.heap.size<=k:=fun k hk=>(hown.lt k hk).1
     go_wp2_with (at_builtin;go_loud (refine wpList_append_own _ rfl _ _ 24 rfl W2.heap.size 3 i3 (.int .i64 0) 1 8 Tryz.underlying24 hi3 hz0 hz1 hz2 rfl (by decide) _ _ _ rfl (hown.alloc _) ⟨wr.heap.size,0,none⟩ 1 1 [.int .i64 (2*(i+1+(m:Int)))] rfl rfl ?c1 ?c2 ?c3 ?c4 ?c5 ?_))
     case c1=>
      intro j u hj
      match j,hj with
      |0,hj=>simp at hj;subst hj;simp[Addr.add,World.cell?_alloc_at]
     case c2=>intro u hu;simp at hu;subst hu;rfl
     case c3=>unfold maxLen;omega
     case c4=>omega
     case c5=>simp;omega
     intro v' w2 hown2 hgrow _
     obtain⟨gg,cap,rfl⟩:∃g cap,v' = .slice (some ⟨g,0,none⟩) (m+1) cap:=by
      rcases hown2.2 with⟨_,hh⟩|⟨g,cap,cur,hv',_⟩
      .omega
      .exact⟨g,cap,hv'⟩
     have f2':w2.frozen? ⟨M+1,2,none⟩=false:=(World.frozen?_of_block (a:=⟨M+1,2,none⟩) ((hgrow.block (M+1) (by simp;omega) aI).trans (Below.heap_alloc wr _ _ (by omega)))).trans f2
     have b2':w2.cell? ⟨M+1,2,none⟩=some vf:=(World.cell?_of_block (a:=⟨M+1,2,none⟩) ((hgrow.block (M+1) (by simp;omega) aI).trans (Below.heap_alloc wr _ _ (by omega)))).trans b2
     have hJ2:=KJ.out.push Kvf.out hob (by omega) hsz2 (fun k hk=>Below.heap_alloc wr _ k hk) (by simp) ⟨rfl,rfl,rfl⟩ hown2 rfl hgrow
     have KJ2:=Hd.mk hJ2
     clear hJ2 hown2 hgrow hown b2 f2 e0
     go_wp2
     refine⟨⟨m+1,by omega,by go_num,KJ2.out⟩,by simp[intOf];omega⟩
    .have hmE:m=l:=by omega
     have KO2:=Hd.mk hown
     have hn2:(n:Int).toNat=n:=by omega
     clear hown
     obtain⟨fA,fn,fc,rfl⟩:∃A k c,vf = .slice A k c:=by
      rcases KO2.out.2 with⟨h,_⟩|⟨g,cap,cur,h,_⟩
      .exact⟨_,_,_,h⟩
      .exact⟨_,_,_,h⟩
     have hcl:=cJv hC KO2.out (bVk i m).symm (by omega)
     have hRr:=(KK.out (w.heap.size+1) (by omega) (by omega)).trans ((KI.out.left.block (w.heap.size+1) (by rw[HS.out];omega) (by omega)).trans KRb0.out)
     have KRr:=Hd.mk hRr
     clear hRr
     go_wp2_with (go_at_call 41;go_loud (refine hcl.mono ?_;rintro e w3 ⟨vc,rfl,hb3,hc3⟩;obtain⟨cA,cn,cc,rfl⟩:=hc3.isSlice;have K3:=Hd.mk hb3;have C3:=Hd.mk hc3;have KL3:=Hd.mk ((hb3.block (M+1) (by omega)).trans Kvf.out);have KR3:=Hd.mk ((hb3.block (w.heap.size+1) (by omega)).trans KRr.out);have b4:w3.cell? ⟨M+1,4,none⟩=some (.slice none 0 0):=by { simp[World.cell?,KL3.out] };have f4:w3.frozen? ⟨M+1,4,none⟩=false:=by { simp[World.frozen?,KL3.out] };have hL4:Hd ((w3.setCell ⟨M+1,4,none⟩ (.slice cA cn cc)).heap[M+1]?=some (.cells #[.int .i64 0,.int .i64 1,.slice fA fn fc,.slice (some ⟨M,0,none⟩) 1 1,.slice cA cn cc,.slice none 0 0,.int .i64 1] 39 (0,0))):=⟨by { have:=bBb (u:=.slice cA cn cc) KL3.out (o:=4) (by simp);simpa using this }⟩;have y0:(w3.setCell ⟨M+1,4,none⟩ (.slice cA cn cc)).cell? ⟨M+1,0,none⟩=some (.int .i64 0):=by { simp[World.cell?,hL4.out] };have y1:(w3.setCell ⟨M+1,4,none⟩ (.slice cA cn cc)).cell? ⟨M+1,1,none⟩=some (.int .i64 1):=by { simp[World.cell?,hL4.out] };have y2:(w3.setCell ⟨M+1,4,none⟩ (.slice cA cn cc)).cell? ⟨M+1,2,none⟩=some (.slice fA fn fc):=by { simp[World.cell?,hL4.out] };have y3:(w3.setCell ⟨M+1,4,none⟩ (.slice cA cn cc)).cell? ⟨M+1,3,none⟩=some (.slice (some ⟨M,0,none⟩) 1 1):=by { simp[World.cell?,hL4.out] };have y4:(w3.setCell ⟨M+1,4,none⟩ (.slice cA cn cc)).cell? ⟨M+1,4,none⟩=some (.slice cA cn cc):=by { simp[World.cell?,hL4.out] };have y5:(w3.setCell ⟨M+1,4,none⟩ (.slice cA cn cc)).cell? ⟨M+1,5,none⟩=some (.slice none 0 0):=by { simp[World.cell?,hL4.out] };have y6:(w3.setCell ⟨M+1,4,none⟩ (.slice cA cn cc)).cell? ⟨M+1,6,none⟩=some (.int .i64 1):=by { simp[World.cell?,hL4.out] };have g0:=(Below.heap_setCell w3 ⟨M+1,4,none⟩ (.slice cA cn cc) (w.heap.size+1) (by show w.heap.size+1≠M+1;omega)).trans KR3.out;obtain⟨x0,f0',x1,f1',x2,f2',x3,f3',x4,f4',x5,f5',x6,f6',kn,km,kq⟩:=chain7 (w3.setCell ⟨M+1,4,none⟩ (.slice cA cn cc)) (w.heap.size+1) (.int .i64 0) (.int .i64 1) (.slice fA fn fc) (.slice (some ⟨M,0,none⟩) 1 1) (.slice cA cn cc) (.slice none 0 0) (.int .i64 1) _ _ _ _ _ _ _ g0;have KN:=Hd.mk kn;have KM:=Hd.mk km;have KQ:=Hd.mk kq;clear g0 kn km kq hb3 hc3))
     have hM4:∀k,k≠M+1->(w3.setCell ⟨M+1,4,none⟩ (.slice cA cn cc)).heap[k]?=w3.heap[k]?:=fun k hk=>Below.heap_setCell _ _ _ _ hk
     have KM4:Hd (∀k,k≠M+1->k≠w.heap.size+1->((((((((w3.setCell ⟨M+1,4,none⟩ (.slice cA cn cc)).setCell ⟨w.heap.size+1,0,none⟩ (.int .i64 0)).setCell ⟨w.heap.size+1,1,none⟩ (.int .i64 1)).setCell ⟨w.heap.size+1,2,none⟩ (.slice fA fn fc)).setCell ⟨w.heap.size+1,3,none⟩ (.slice (some ⟨M,0,none⟩) 1 1)).setCell ⟨w.heap.size+1,4,none⟩ (.slice cA cn cc)).setCell ⟨w.heap.size+1,5,none⟩ (.slice none 0 0)).setCell ⟨w.heap.size+1,6,none⟩ (.int .i64 1)).heap[k]?=w3.heap[k]?):=⟨fun k h1 h2=>(KM.out k h2).trans (hM4 k h1)⟩
     have KQ4:Hd (((((((((w3.setCell ⟨M+1,4,none⟩ (.slice cA cn cc)).setCell ⟨w.heap.size+1,0,none⟩ (.int .i64 0)).setCell ⟨w.heap.size+1,1,none⟩ (.int .i64 1)).setCell ⟨w.heap.size+1,2,none⟩ (.slice fA fn fc)).setCell ⟨w.heap.size+1,3,none⟩ (.slice (some ⟨M,0,none⟩) 1 1)).setCell ⟨w.heap.size+1,4,none⟩ (.slice cA cn cc)).setCell ⟨w.heap.size+1,5,none⟩ (.slice none 0 0)).setCell ⟨w.heap.size+1,6,none⟩ (.int .i64 1)).os=w3.os/\((((((((w3.setCell ⟨M+1,4,none⟩ (.slice cA cn cc)).setCell ⟨w.heap.size+1,0,none⟩ (.int .i64 0)).setCell ⟨w.heap.size+1,1,none⟩ (.int .i64 1)).setCell ⟨w.heap.size+1,2,none⟩ (.slice fA fn fc)).setCell ⟨w.heap.size+1,3,none⟩ (.slice (some ⟨M,0,none⟩) 1 1)).setCell ⟨w.heap.size+1,4,none⟩ (.slice cA cn cc)).setCell ⟨w.heap.size+1,5,none⟩ (.slice none 0 0)).setCell ⟨w.heap.size+1,6,none⟩ (.int .i64 1)).tape=w3.tape/\((((((((w3.setCell ⟨M+1,4,none⟩ (.slice cA cn cc)).setCell ⟨w.heap.size+1,0,none⟩ (.int .i64 0)).setCell ⟨w.heap.size+1,1,none⟩ (.int .i64 1)).setCell ⟨w.heap.size+1,2,none⟩ (.slice fA fn fc)).setCell ⟨w.heap.size+1,3,none⟩ (.slice (some ⟨M,0,none⟩) 1 1)).setCell ⟨w.heap.size+1,4,none⟩ (.slice cA cn cc)).setCell ⟨w.heap.size+1,5,none⟩ (.slice none 0 0)).setCell ⟨w.heap.size+1,6,none⟩ (.int .i64 1)).output=w3.output/\((((((((w3.setCell ⟨M+1,4,none⟩ (.slice cA cn cc)).setCell ⟨w.heap.size+1,0,none⟩ (.int .i64 0)).setCell ⟨w.heap.size+1,1,none⟩ (.int .i64 1)).setCell ⟨w.heap.size+1,2,none⟩ (.slice fA fn fc)).setCell ⟨w.heap.size+1,3,none⟩ (.slice (some ⟨M,0,none⟩) 1 1)).setCell ⟨w.heap.size+1,4,none⟩ (.slice cA cn cc)).setCell ⟨w.heap.size+1,5,none⟩ (.slice none 0 0)).setCell ⟨w.heap.size+1,6,none⟩ (.int .i64 1)).heap.size=w3.heap.size):=⟨KQ.out.1,KQ.out.2.1,KQ.out.2.2.1,KQ.out.2.2.2.trans (by simp)⟩
     clear hM4 KM KQ x0 x1 x2 x3 x4 x5 x6 f0' f1' f2' f3' f4' f5' f6' y0 y1 y2 y3 y4 y5 y6
     generalize ((((((((w3.setCell ⟨M+1,4,none⟩ (.slice cA cn cc)).setCell ⟨w.heap.size+1,0,none⟩ (.int .i64 0)).setCell ⟨w.heap.size+1,1,none⟩ (.int .i64 1)).setCell ⟨w.heap.size+1,2,none⟩ (.slice fA fn fc)).setCell ⟨w.heap.size+1,3,none⟩ (.slice (some ⟨M,0,none⟩) 1 1)).setCell ⟨w.heap.size+1,4,none⟩ (.slice cA cn cc)).setCell ⟨w.heap.size+1,5,none⟩ (.slice none 0 0)).setCell ⟨w.heap.size+1,6,none⟩ (.int .i64 1))=WF at KN KM4 KQ4 ⊢
     refine bodyPost_ret (v:=.tuple #[.agg #[.int .i64 0,.int .i64 1,.slice fA fn fc,.slice (some ⟨M,0,none⟩) 1 1,.slice cA cn cc,.slice none 0 0,.int .i64 1],.int .i64 0]) (res_ct rfl rfl (run_loadVar_row _ _ 39 39 _ (0,0) _ KN.out Tryz.underlying39 rfl (by kernel_rfl)) rfl) rfl ?_
     have z1:=K3.out.size;have z2:=KI.out.left.size;have z3:=KB0.out.size;have z4:=K1.out.size
     rw[HS.out]at z2
     have hFlow:∀k,k<W2.heap.size->k≠M+1->k≠w.heap.size+1->WF.heap[k]?=W2.heap[k]?:=fun k h1 h2 h3=>(KM4.out k h2 h3).trans ((K3.out.block k (by omega)).trans (KK.out k h1 h2))
     have hw2:∀k,k<M->W2.heap[k]?=w1.heap[k]?:=fun k hk=>(KI.out.left.block k (by rw[HS.out];omega) (by omega)).trans (KB0.out.block k hk)
     have hBel:Below w.heap.size w WF:=by
      have hb:=KB.out.trans (K1.out.mono (by simp;omega))
      refine⟨KQ4.out.1.trans (K3.out.os.trans (KJ.out.left.os.trans (KI.out.left.os.trans (KB0.out.os.trans hb.os)))),KQ4.out.2.1.trans (K3.out.tape.trans (KJ.out.left.tape.trans (KI.out.left.tape.trans (KB0.out.tape.trans hb.tape)))),KQ4.out.2.2.1.trans (K3.out.output.trans (KJ.out.left.output.trans (KI.out.left.output.trans (KB0.out.output.trans hb.output)))),?_,fun k hk=>?_⟩
      .rw[KQ4.out.2.2.2];omega
      .exact(hFlow k (by omega) (by omega) (by omega)).trans ((hw2 k (by omega)).trans (hb.block k hk))
     have o1:=bPo (w':=WF) KO.out (fun g hg=>by
      have:=KO.out.lt g hg
      exact hFlow g (by omega) (by omega) (by omega))
     have o2:=bPo (w':=WF) KO2.out (fun g hg=>by
      have:=KO2.out.lt g hg
      exact(KM4.out g (by omega) (by omega)).trans (K3.out.block g (by omega)))
     have o3:Cl wr.heap.size w3.heap.size WF 1 m (firL i m) (.slice cA cn cc):=Cl.moved C3.out (fun b h1 h2=>KM4.out b (by omega) (by omega)) (Nat.le_refl _)
     refine⟨M,vr,.slice fA fn fc,.slice cA cn cc,rfl,hBel,by omega,cell_of_one ((hFlow M (by omega) (by omega) (by omega)).trans Kvr.out),fun bad hbad=>⟨?_,?_,?_⟩⟩
     .have e9:i.toNat=n:=by omega
      rw[e9]
      exact bX6 o1 (cHw n).symm fun b hb=>hbad b (by have:=(o1.lt b hb).1;omega)
     .rw[<-hmE];exact bX6 o2 (bVk i m).symm fun b hb=>hbad b (by have:=(o2.lt b hb).1;omega)
     .rw[<-hmE];exact cCz o3 (bVk i m).symm fun b hb=>hbad b (by omega)
end
section
abbrev LiftT:=Int×Int×List Int×List (List Int)×List Int×LP×Int
def liftS:Sh:=.agg (.d (.int .i64)) (.agg (.d (.int .i64)) (.agg (.d (.list (.int .i64))) (.agg (.d (.list (.list (.int .i64)))) (.agg (.d (.list (.int .i64))) (.agg (.d (.list (.pair (.int .i64) (.int .i64)))) (.d (.int .i64)))))))
def bJ4(i:Int)(l:LP):LiftT×Int:=((0,1,firL i l.length,[insL i.toNat],firL i l.length,[],1),0)
def bLe(C:bAu):List AV->Option (LiftT×Int)
 |[.agg [.d (.int .i64) i,.d (.list (.pair (.int .i64) (.int .i64))) l,.d (.list (.pair (.int .i64) (.int .i64))) a,.d (.list (.int .i64)) p,.d (.list (.int .i64)) q]]=>
  match C 37 [bCk i l a p q] [.d (.int .i64)]with
  |some r=>if(show Int from r)=0/\(0<=(show Int from i)/\(show Int from i)<=1000/\(List.length (α:=Int×Int) l)<=1000) then some (bJ4 i l) else none
  |none=>none
 |_=>none
def cD7(C:bAu)(xs:List AV):(s:List Sh)->Option (dens s)
 |[.agg (.d (.int .i64)) (.agg (.d (.int .i64)) (.agg (.d (.list (.int .i64))) (.agg (.d (.list (.list (.int .i64)))) (.agg (.d (.list (.int .i64))) (.agg (.d (.list (.pair (.int .i64) (.int .i64)))) (.d (.int .i64))))))),.d (.int .i64)]=>bLe C xs
 |_=>none
theorem bYj{C:bAu}{Cn:Nat->bAu}(h:Near C Cn){xs:List AV}{z:LiftT×Int}(hz:bLe C xs=some z):∃n,∀m,n<=m->bLe (Cn m) xs=some z:=by
 unfold bLe at hz
 split at hz
 .split at hz
  .rename_i r hr
   obtain⟨n,hn⟩:=h _ _ _ _ hr
   refine⟨n,fun m hm=>?_⟩
   simp only[bLe,hn m hm]
   exact hz
  .cases hz
 .cases hz
def cCo:HK where
 run:=cD7
 near:=by
  intro C Cn h xs s z hz
  unfold cD7 at hz
  split at hz
  .exact bYj h hz
  .cases hz
theorem cGz{E:Env}(h37:bAa E.sg 37=some ([.ro],[.d (.int .i64)]))(hC2:ClOk 41 (.int .i64)){C:bAu}(hC:bC2 Tryz.prog E C)(i:Int)(l a:LP)(p q:List Int)(h37a:C 37 [bCk i l a p q] [.d (.int .i64)]=some (0:Int))(i0:0<=i)(i1:i<=1000)(l1:l.length<=1000)
  (b0:Nat->Prop) (w:World) (vs:List Value) (bs:List Nat) (hvs:Vs (VR2 noβ [] w (fun b=>b0 b\/b∈bs)) [bCk i l a p q] vs bs) (hb0:∀b,b0 b->b<w.heap.size) :
  Calls Tryz.prog 28 vs.toArray w fun e w'=>∃v,e = .returned v/\bMo b0 [.ro] [liftS,.d (.int .i64)] vs bs w w' (bJ4 i l) v:=by
 obtain⟨v1,vs1,b1,bs1,rfl,rfl,g1,hvs1⟩:=hvs.cons'
 obtain⟨rfl,rfl⟩:=hvs1.nil'
 obtain⟨rfl,u1,u2,u3,u4,rfl,k1,k2,k3,k4⟩:=bYw g1
 obtain⟨A1,d1,rfl,-,-⟩:=bJu k1
 obtain⟨A2,d2,rfl,-,-⟩:=bJu k2
 obtain⟨A3,d3,rfl,-,-⟩:=ints_at k3
 obtain⟨A4,d4,rfl,-,-⟩:=ints_at k4
 have hK:∀W,Below w.heap.size w W->Calls Tryz.prog 37 #[.agg #[.int .i64 i,.slice A1 l.length d1,.slice A2 a.length d2,.slice A3 p.length d3,.slice A4 q.length d4]] W fun e w'=>e = .returned (.int .i64 0)/\Below W.heap.size W w':=by
  intro W hb
  refine((hC 37 _ _ h37 _ _ h37a).2 (fun _=>False) W _ [] (.cons (b:=[]) (bKw hb g1) .nil) List.nodup_nil (by simp) (fun _ h=>h.elim)).mono fun e w' h=>?_
  obtain⟨v,rfl,hres⟩:=h
  obtain⟨e1,e2,_,hbs,hv,_⟩:=hres.res
  obtain⟨rfl,-⟩:=bBc (β:=noβ) (ob:=[]) (w:=w') (show VR2 noβ [] w' _ (.d (.int .i64) (0:Int)) v e1 from hv)
  exact⟨rfl,bG4 hres.same (by simp)⟩
 refine(bYi hC2 i l.length d1 a.length d2 p.length d3 q.length d4 A1 A2 A3 A4 w i0 i1 l1 hK).mono ?_
 rintro e w' ⟨I0,vr,vf,vc,rfl,hbel,hI,hcell,hall⟩
 have hnb:∀b,w.heap.size<=b->¬((fun b=>b0 b\/b∈([]:List Nat)++[]) b):=fun b hb h=>by
  rcases h with h|h
  .have:=hb0 b h;omega
  .cases h
 obtain⟨r1,r2,r3⟩:=hall (fun b=>b0 b\/b∈([]:List Nat)++[]) hnb
 have y3:VR0 noβ [] w' (fun b=>b0 b\/b∈([]:List Nat)++[]) (.d (.list (.list (.int .i64))) [insL i.toNat]) (.slice (some ⟨I0,0,none⟩) 1 1) []:=by
  refine⟨rfl,_,rfl,_,_,rfl,Nat.le_refl _,by simp,fun ad ha j x hx=>?_⟩
  cases ha
  cases j with
  |succ j=>simp at hx
  |zero=>
   simp at hx
   subst hx
   obtain⟨cs,hv,he⟩:=r1.2
   have hv':cs=[vr]:=hv
   subst hv'
   refine⟨rfl,hnb I0 hI,[vr],he,fun j v hj=>?_⟩
   cases j with
   |zero=>simp at hj;subst hj;simpa using hcell
   |succ j=>simp at hj
 refine⟨_,rfl,⟨(bDn hbel).mono fun _ _ h=>h.elim,[],[],by simp,by simp,?_,.nil⟩⟩
 have int0:∀z:Int,VR0 noβ [] w' (fun b=>b0 b\/b∈([]:List Nat)++[]) (.d (.int .i64) z) (.int .i64 z) []:=fun z=>⟨rfl,_,rfl,rfl⟩
 have agg:VR1 noβ [] w' (fun b=>b0 b\/b∈([]:List Nat)++[]) (.agg [.d (.int .i64) (0:Int),.d (.int .i64) (1:Int),.d (.list (.int .i64)) (firL i l.length),.d (.list (.list (.int .i64))) [insL i.toNat],.d (.list (.int .i64)) (firL i l.length),.d (.list (.pair (.int .i64) (.int .i64))) [],.d (.int .i64) (1:Int)])
   (.agg #[.int .i64 0,.int .i64 1,vf,.slice (some ⟨I0,0,none⟩) 1 1,vc,.slice none 0 0,.int .i64 1]) []:=
  ⟨[_,_,_,_,_,_,_],rfl,Vs.cons (b:=[]) (int0 0) (Vs.cons (b:=[]) (int0 1) (Vs.cons (b:=[]) r2 (Vs.cons (b:=[]) y3 (Vs.cons (b:=[]) r3 (Vs.cons (b:=[]) bLj (Vs.cons (b:=[]) (int0 1) Vs.nil))))))⟩
 exact⟨[_,.int .i64 0],rfl,Vs.cons (b:=[]) agg (.cons (b:=[]) (a:=.d (.int .i64) 0) (bFh (β:=noβ) (ob:=[]) .i64 0) .nil)⟩
theorem identDo{E:Env}(h28:bAa E.sg 28=some ([.ro],[liftS,.d (.int .i64)]))(h37:bAa E.sg 37=some ([.ro],[.d (.int .i64)]))(hC2:ClOk 41 (.int .i64)):HkDo Tryz.prog E 28 cCo:=by
 intro C hC ms rs hsg xs r hans b0 w vs bs hvs hnd hbs hb0
 rw[h28]at hsg
 cases hsg
 have hans':bLe C xs=some r:=hans
 clear hans
 unfold bLe at hans'
 split at hans'
 .split at hans'
  .rename_i r37 h37a
   split at hans'
   .rename_i hcond
    obtain⟨hr,i0,i1,l1⟩:=hcond
    have h37b:=h37a.trans (congrArg some hr)
    cases hans'
    exact cGz h37 hC2 hC _ _ _ _ _ h37b i0 i1 l1 b0 w vs bs hvs hb0
   .cases hans'
  .cases hans'
 .cases hans'
end
end Go.Proofs.YtjkoadoekaplpaaGreat

