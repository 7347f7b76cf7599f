/- . -/
import Derived.Test.YtfjpfjnepdhnaaaGreatW
import Derived.Test.YtfjpfjnepdhnaaaGreatR4
namespace Go.Proofs.YtfjpfjnepdhnaaaGreat
open Go Go.RowKit
set_option linter.unusedVariables false
set_option linter.unusedSimpArgs false
section
def jn(l:List (Int×Int)):List Int:=l.flatMap fun g=>[g.1,g.2]
theorem mC:∀(l:List (Int×Int)) (j:Nat) (g:Int×Int),l[j]?=some g->(jn l)[j*2]?=some g.1/\(jn l)[j*2+1]?=some g.2
 |[],j,g,h=>by simp at h
 |a::r,0,g,h=>by simp at h;subst h;simp[jn]
 |a::r,j+1,g,h=>by
  obtain⟨h1,h2⟩:=mC r j g (by simpa using h)
  have e:jn (a::r)=a.1::a.2::jn r:=by simp[jn]
  rw[e,show(j+1)*2=j*2+1+1 by omega]
  exact⟨by simpa using h1,by simpa using h2⟩
theorem BZ:∀(l:List (Int×Int)) (j:Nat) (g:Int×Int) (x:Int),l[j]?=some g->(jn l).set (j*2) x=jn (l.set j (x,g.2))
 |[],j,g,x,h=>by simp at h
 |a::r,0,g,x,h=>by simp at h;subst h;simp[jn]
 |a::r,j+1,g,x,h=>by
  have:=BZ r j g x (by simpa using h)
  have e:∀(a:Int×Int) (r:List (Int×Int)),jn (a::r)=a.1::a.2::jn r:=fun a r=>by simp[jn]
  rw[e,show(j+1)*2=j*2+1+1 by omega]
  simp only[List.set_cons_succ,this,e]
def sf{α:Type}(f:α->α)(l:List α)(j:Nat):List α:=(l.take j).map f++l.drop j
theorem zN{α:Type}(f:α->α)(l:List α):sf f l 0=l:=by simp[sf]
theorem Bv{α:Type}(f:α->α)(l:List α):sf f l l.length=l.map f:=by simp[sf]
theorem sO{α:Type}(f:α->α)(l:List α)(j:Nat):(sf f l j)[j]?=l[j]?:=by
 unfold sf
 by_cases h:j<l.length
 .rw[List.getElem?_append_right (by simp;omega)]
  simp[Nat.min_eq_left (Nat.le_of_lt h)]
 .rw[List.getElem?_eq_none (by simp;omega),List.getElem?_eq_none (by omega)]
theorem Bu{α:Type}(f:α->α)(l:List α)(j:Nat)(x:α)(h:l[j]?=some x):(sf f l j).set j (f x)=sf f l (j+1):=by
 unfold sf
 obtain⟨hj,hx⟩:=List.getElem?_eq_some_iff.1 h
 have hl:((l.take j).map f).length=j:=by simp;omega
 have hd:l.drop j=x::l.drop (j+1):=by rw[<-hx];exact List.drop_eq_getElem_cons hj
 have ht:l.take (j+1)=l.take j++[x]:=by
  rw[List.take_add_one,h]
  rfl
 rw[List.set_append_right _ _ (by omega),hl,Nat.sub_self,hd,List.set_cons_zero,ht]
 simp
theorem IZ{base top:Nat}{w:World}{σ n:Nat}{l:List Int}{A:Option Addr}{c j:Nat}{x y:Int}{b o:Nat}(h:Cl base top w σ n l (.slice A n c))(hA:A=some ⟨b,o,none⟩)(hj:l[j]?=some x):
  Cl base top (w.setCell ⟨b,o+j,none⟩ (.int .i64 y)) σ n (l.set j y) (.slice A n c):=by
 rcases h with⟨_,h2,_⟩|⟨b',o',c',h1,h2,h3,h4,h5⟩
 .subst h2;simp at hj
 .subst hA
  cases h1
  exact .inr ⟨b,o,c,rfl,h2,h3,h4,h5.set hj⟩
theorem AF{base top:Nat}{w:World}{σ n:Nat}{l:List Int}{A:Option Addr}{c j:Nat}{x:Int}(h:Cl base top w σ n l (.slice A n c))(hj:l[j]?=some x):
  ∃b o,A=some ⟨b,o,none⟩/\(base<=b/\b<top)/\w.cell? ⟨b,o+j,none⟩=some (.int .i64 x)/\∀k,w.frozen? ⟨b,k,none⟩=false:=by
 rcases h with⟨_,h2,_⟩|⟨b',o',c',h1,h2,h3,h4,h5⟩
 .subst h2;simp at hj
 .cases h1
  exact⟨b',o',rfl,h4,h5.cell hj,h5.frozen⟩
theorem tI{base top:Nat}{w:World}{σ n:Nat}{l:List Int}{v u:Value}{b o:Nat}(h:Cl base top w σ n l v)(hb:b<base\/top<=b):Cl base top (w.setCell ⟨b,o,none⟩ u) σ n l v:=by
 rcases h with h|⟨b',o',c',h1,h2,h3,h4,h5⟩
 .exact .inl h
 .exact .inr ⟨b',o',c',h1,h2,h3,h4,h5.kept (Below.heap_setCell _ _ _ _ (by show b'≠b;omega))⟩
theorem Cl.moved{base top base':Nat}{w w':World}{σ n:Nat}{l:List Int}{v:Value}(h:Cl base top w σ n l v)(hb:∀b,base<=b->b<top->w'.heap[b]?=w.heap[b]?)(h1:base'<=base):Cl base' top w' σ n l v:=by
 rcases h with h|⟨b,o,c,q1,q2,q3,q4,q5⟩
 .exact .inl h
 .exact .inr ⟨b,o,c,q1,q2,q3,⟨Nat.le_trans h1 q4.1,q4.2⟩,q5.kept (hb b q4.1 q4.2)⟩
structure LJ(F:Fx)(R0 m1 m2:Nat)(A3 A4:Option Addr)(n3 c3 n4 c4:Nat)(told:List Int)(ands:List (Int×Int))(W0:World)(f1:List (Int×Int))(f3 f4:List Int)(wr:World):Prop where
 bld:∃va,Ga F.Bb F.Mb F.base F.i F.t1A F.l F.t1c (.slice A3 n3 c3) (.slice A4 n4 c4) va ands (cY (2*(F.gate:Int)) ands) wr/\∀k,va.ownBlock=some k->F.L0<=k
 row:Flat wr F.T 0 F.N told
 left:Left (fun k=>k=F.Bb\/k=F.Mb\/k=F.T\/(R0<=k/\k<F.T)) W0 wr
 c1:Cl R0 m1 wr 2 F.l (jn f1) (.slice F.t1A F.l F.t1c)
 c3:Cl m1 m2 wr 1 n3 f3 (.slice A3 n3 c3)
 c4:Cl m2 F.T wr 1 n4 f4 (.slice A4 n4 c4)
 ord:F.H<R0/\F.Bb<R0/\F.Mb<R0/\R0<=m1/\m1<=m2/\m2<=F.T/\F.T<F.L0/\F.Tc<F.L0/\F.T<F.Tc
section
variable {F:Fx} {R0 m1 m2:Nat} {A3 A4:Option Addr} {n3 c3 n4 c4:Nat} {told:List Int} {ands:List (Int×Int)} {W0 wr:World} {f1:List (Int×Int)} {f3 f4:List Int}
theorem LJ.base(h:LJ F R0 m1 m2 A3 A4 n3 c3 n4 c4 told ands W0 f1 f3 f4 wr){b o:Nat}{u:Value}(hb:R0<=b/\b<F.T):
  (∃va,Ga F.Bb F.Mb F.base F.i F.t1A F.l F.t1c (.slice A3 n3 c3) (.slice A4 n4 c4) va ands (cY (2*(F.gate:Int)) ands) (wr.setCell ⟨b,o,none⟩ u)/\∀k,va.ownBlock=some k->F.L0<=k)/\Flat (wr.setCell ⟨b,o,none⟩ u) F.T 0 F.N told/\Left (fun k=>k=F.Bb\/k=F.Mb\/k=F.T\/(R0<=k/\k<F.T)) W0 (wr.setCell ⟨b,o,none⟩ u):=by
 obtain⟨o1,o2,o3,o4,o5,o6,o7,o8,o9⟩:=h.ord
 refine⟨?_,h.row.kept (Below.heap_setCell _ _ _ _ (by show F.T≠b;omega)),h.left.trans ⟨rfl,rfl,rfl,by simp,fun k hk hn=>Below.heap_setCell _ _ _ _ (fun e=>hn (.inr (.inr (.inr (by rw[e];exact hb)))))⟩⟩
 obtain⟨va,b1,b2⟩:=h.bld
 refine⟨va,⟨(Below.heap_setCell _ _ _ _ (by show F.Bb≠b;omega)).trans b1.blk,ownsRow_setCell_other b1.own (fun e=>by have:=b2 b e;omega) _,?_,b1.ne,b1.lt⟩,b2⟩
 obtain⟨D,d1,d2⟩:=b1.map
 exact⟨D,d1.setCell (by show F.Mb≠b;omega) _,d2⟩
theorem LJ.set1(h:LJ F R0 m1 m2 A3 A4 n3 c3 n4 c4 told ands W0 f1 f3 f4 wr){b o j:Nat}{g:Int×Int}{y:Int}(hA:F.t1A=some ⟨b,o,none⟩)(hg:f1[j]?=some g):LJ F R0 m1 m2 A3 A4 n3 c3 n4 c4 told ands W0 (f1.set j (y,g.2)) f3 f4 (wr.setCell ⟨b,o+j*2,none⟩ (.int .i64 y)):=by
 obtain⟨o1,o2,o3,o4,o5,o6,o7,o8,o9⟩:=h.ord
 obtain⟨b',o',e1,e2,-⟩:=AF h.c1 (mC _ _ _ hg).1
 rw[e1]at hA;cases hA
 obtain⟨q1,q2,q3⟩:=h.base (b:=b) (o:=o+j*2) (u:=.int .i64 y) ⟨e2.1,by omega⟩
 have:=IZ (y:=y) h.c1 e1 (mC _ _ _ hg).1
 rw[BZ _ _ _ _ hg]at this
 exact⟨q1,q2,q3,this,tI h.c3 (by omega),tI h.c4 (by omega),h.ord⟩
theorem LJ.set3(h:LJ F R0 m1 m2 A3 A4 n3 c3 n4 c4 told ands W0 f1 f3 f4 wr){b o j:Nat}{x y:Int}(hA:A3=some ⟨b,o,none⟩)(hg:f3[j]?=some x):LJ F R0 m1 m2 A3 A4 n3 c3 n4 c4 told ands W0 f1 (f3.set j y) f4 (wr.setCell ⟨b,o+j,none⟩ (.int .i64 y)):=by
 obtain⟨o1,o2,o3,o4,o5,o6,o7,o8,o9⟩:=h.ord
 obtain⟨b',o',e1,e2,-⟩:=AF h.c3 hg
 rw[e1]at hA;cases hA
 obtain⟨q1,q2,q3⟩:=h.base (b:=b) (o:=o+j) (u:=.int .i64 y) ⟨by omega,by omega⟩
 exact⟨q1,q2,q3,tI h.c1 (by omega),IZ h.c3 e1 hg,tI h.c4 (by omega),h.ord⟩
theorem LJ.set4(h:LJ F R0 m1 m2 A3 A4 n3 c3 n4 c4 told ands W0 f1 f3 f4 wr){b o j:Nat}{x y:Int}(hA:A4=some ⟨b,o,none⟩)(hg:f4[j]?=some x):LJ F R0 m1 m2 A3 A4 n3 c3 n4 c4 told ands W0 f1 f3 (f4.set j y) (wr.setCell ⟨b,o+j,none⟩ (.int .i64 y)):=by
 obtain⟨o1,o2,o3,o4,o5,o6,o7,o8,o9⟩:=h.ord
 obtain⟨b',o',e1,e2,-⟩:=AF h.c4 hg
 rw[e1]at hA;cases hA
 obtain⟨q1,q2,q3⟩:=h.base (b:=b) (o:=o+j) (u:=.int .i64 y) ⟨by omega,by omega⟩
 exact⟨q1,q2,q3,tI h.c1 (by omega),tI h.c3 (by omega),IZ h.c4 e1 hg,h.ord⟩
theorem LJ.more{w':World}(h:LJ F R0 m1 m2 A3 A4 n3 c3 n4 c4 told ands W0 f1 f3 f4 wr)(hb:Below wr.heap.size wr w'):LJ F R0 m1 m2 A3 A4 n3 c3 n4 c4 told ands W0 f1 f3 f4 w':=by
 obtain⟨va,b1,b2⟩:=h.bld
 exact⟨⟨va,b1.more hb,b2⟩,h.row.kept (hb.block _ h.row.lt),h.left.trans (Left.of_below hb),h.c1.more hb (Nat.le_refl _) (Nat.le_refl _),h.c3.more hb (Nat.le_refl _) (Nat.le_refl _),h.c4.more hb (Nat.le_refl _) (Nat.le_refl _),h.ord⟩
theorem LJ.reads(hF:F.Ok W0)(h:LJ F R0 m1 m2 A3 A4 n3 c3 n4 c4 told ands W0 f1 f3 f4 wr):
  wr.cell? ⟨F.Tc,0,none⟩=some (.slice (some ⟨F.T,0,none⟩) F.N F.N)/\wr.heap[F.H]?=some (.cells #[.int .i64 F.i,.slice F.A1 F.l F.c1,.slice F.A2 F.cands.length F.c2,F.x3,F.x4] 26 (0,0)) /\
  (∃va,wr.heap[F.Bb]?=some (.cells #[.int .i64 F.i,.slice F.t1A F.l F.t1c,va,.slice A3 n3 c3,.slice A4 n4 c4,.map (some F.Mb)] 115 (0,0)))/\(∀b o x,b<F.H->W0.cell? ⟨b,o,none⟩=x->wr.cell? ⟨b,o,none⟩=x):=by
 obtain⟨o1,o2,o3,o4,o5,o6,o7,o8,o9⟩:=h.ord
 obtain⟨n1,n2,n3,n4,n5,n6,n7,n8⟩:=hF.nT
 obtain⟨l1,l2,l3,l4⟩:=hF.low
 have hs:=hF.size
 have hk:∀k,k<F.L0->k≠F.Bb->k≠F.Mb->k≠F.T->(k<R0\/F.T<=k)->wr.heap[k]?=W0.heap[k]?:=fun k h1 h2 h3 h4 h5=>h.left.block k (by omega) (by rintro(e|e|e|e)<;>omega)
 obtain⟨va,b1,b2⟩:=h.bld
 refine⟨cell_of_one ((hk F.Tc (by omega) n7 n8 n6 (by omega)).trans hF.tc),(hk F.H (by omega) n4 n5 n3 (by omega)).trans hF.box,⟨va,b1.blk⟩,fun b o x hb hx=>?_⟩
 exact(World.cell?_of_block (a:=⟨b,o,none⟩) (hk b (by omega) (by omega) (by omega) (by omega) (by omega))).trans hx
end
end
section
theorem NW{P:Program}{fn:Func}{tmps:Array Value}{a b c:Tmp}{t:TypeId}(h:fn.results = #[.cell a t,.tmp b,.tmp c]){p:Addr}{v vb vc:Value}{w:World}(hp:tmps.getD a undef = .pointer (some p))(hl:(loadVar t p).run P w = .ok v w)(hb:tmps.getD b undef=vb)(hc:tmps.getD c undef=vc):
  (results fn tmps).run P w = .ok (.tuple #[v,vb,vc]) w:=by
 rw[Array.getD_eq_getD_getElem?]at hp hb hc
 simp[results,h,hp,hl,hb,hc,asAddr]
end
section
def Nx(i:Int)(l n3 n4 N gate:Nat)(cands:List (Int×Int))(given:List Int)(lat:List (Int×Int))(p3 p4:List Int)(w:World)(e:Ending)(w':World):Prop:=
 ∃t1A t1c t3A t3c t4A t4c va T R0 m1 m2 L0,e = .returned (.tuple #[.agg #[.int .i64 i,.slice t1A l t1c,va,.slice t3A n3 t3c,.slice t4A n4 t4c],.slice (some ⟨T,0,none⟩) N N,.int .i64 0]) /\
  Below w.heap.size w w'/\w.heap.size<=R0/\R0<=m1/\m1<=m2/\m2<=T/\T<L0 /\
  Cl R0 m1 w' 2 l (jn (lat.map fun g=>(kB (dC (2*(gate:Int)) gate cands given N).1 g.1,g.2))) (.slice t1A l t1c)/\Cl m1 m2 w' 1 n3 (p3.map (kB (dC (2*(gate:Int)) gate cands given N).1)) (.slice t3A n3 t3c) /\
  Cl m2 T w' 1 n4 (p4.map (kB (dC (2*(gate:Int)) gate cands given N).1)) (.slice t4A n4 t4c)/\Flat w' T 0 N (dC (2*(gate:Int)) gate cands given N).1 /\
  (∃base,w'.ownsRow base 50 2 va (dC (2*(gate:Int)) gate cands given N).2.length (iY (dC (2*(gate:Int)) gate cands given N).2))/\∀k,va.ownBlock=some k->L0<=k
set_option maxRecDepth 1000000 in
set_option maxHeartbeats 4000000 in
theorem Jb(i:Int)(l c1 c2 n3 c3 n4 c4:Nat)(A1 A2 A3 A4:Option Addr)(cands:List (Int×Int))(given:List Int)(Gb Go gc N gate:Nat)(lat:List (Int×Int))(p3 p4:List Int)(w:World)(l1:l<=1000)(i0:0<=i)(i1:i<=1000)
  (hK:Kc N gate cands given) (hgate:(gate:Int)=i+l+1)
  (hV:Np i l cands.length A1 A2 c1 c2 (.slice A3 n3 c3) (.slice A4 n4 c4) w)
  (hGl:Gb<w.heap.size) (hG:∀k x,given[k]?=some x->w.cell? ⟨Gb,Go+k,none⟩=some (.int .i64 x))
  (hGi:∀v,v<N->0<=given.getD v 0->i<(v:Int))
  (hD:∀k g,cands[k]?=some g->∃b o,A2=some ⟨b,o,none⟩/\b<w.heap.size/\w.cell? ⟨b,o+k*2,none⟩=some (.int .i64 g.1)/\w.cell? ⟨b,o+k*2+1,none⟩=some (.int .i64 g.2))
  (hll:lat.length=l) (h3l:p3.length=n3) (h4l:p4.length=n4) (n31:n3<=1000) (n41:n4<=1000)
  (hLt:∀(j:Nat) (g:Int×Int),lat[j]?=some g->(0<=g.1/\g.1/2<(N:Int))/\∃b o,A1=some ⟨b,o,none⟩/\b<w.heap.size/\w.cell? ⟨b,o+j*2,none⟩=some (.int .i64 g.1))
  (hP3:∀(j:Nat) (x:Int),p3[j]?=some x->(0<=x/\x/2<(N:Int))/\∃b o,A3=some ⟨b,o,none⟩/\b<w.heap.size/\w.cell? ⟨b,o+j,none⟩=some (.int .i64 x))
  (hP4:∀(j:Nat) (x:Int),p4[j]?=some x->(0<=x/\x/2<(N:Int))/\∃b o,A4=some ⟨b,o,none⟩/\b<w.heap.size/\w.cell? ⟨b,o+j,none⟩=some (.int .i64 x))
  (hC1:∀W,Below w.heap.size w W->Calls Tryz.prog 36 #[.slice A1 l c1] W (nW W 2 l (jn lat)))
  (hC3:∀W,Below w.heap.size w W->Calls Tryz.prog 38 #[.slice A3 n3 c3] W (nW W 1 n3 p3))
  (hC4:∀W,Below w.heap.size w W->Calls Tryz.prog 38 #[.slice A4 n4 c4] W (nW W 1 n4 p4)) :
  Calls Tryz.prog 53 #[.agg #[.int .i64 i,.slice A1 l c1,.slice A2 cands.length c2,.slice A3 n3 c3,.slice A4 n4 c4],.slice (some ⟨Gb,Go,none⟩) N gc] w (Nx i l n3 n4 N gate cands given lat p3 p4 w):=by
 have hN:=hK.small;have hlen:=hK.len;have hpos:=hK.pos;have hglen:=hK.glen;have hgiv:=hK.giv
 have hNv:i+(l:Int)+(cands.length:Int)+1=(N:Int):=by omega
 have hb1:Below w.heap.size w ((w.alloc (.cells #[.int .i64 i,.slice A1 l c1,.slice A2 cands.length c2,.slice A3 n3 c3,.slice A4 n4 c4] 26)).alloc (.cells #[.int .i64 0,.slice none 0 0,.slice none 0 0,.slice none 0 0,.slice none 0 0] 26)):=((Below.refl _ w).alloc (Nat.le_refl _) _).alloc (by simp) _
 have R0:=hV _ hb1
 have H1:=Hd.mk hC1;have H3:=Hd.mk hC3;have H4:=Hd.mk hC4;have HK:=Hd.mk hK;have HLt:=Hd.mk hLt;have HP3:=Hd.mk hP3;have HP4:=Hd.mk hP4;have Hll:=Hd.mk hll;have H3l:=Hd.mk h3l;have H4l:=Hd.mk h4l;have HD:=Hd.mk hD;have HG:=Hd.mk hG;have HGi:=Hd.mk hGi;have Hgiv:=Hd.mk hgiv
 have HB:=Hd.mk hb1;have HL:=Hd.mk hlen;have HGt:=Hd.mk hgate;have HPos:=Hd.mk hpos
 clear hLt hP3 hP4 hll h3l h4l hC1 hC3 hC4 hK hV hD hG hGi hgiv hb1 hlen hgate hpos
 go_enter Tryz.func53,Tryz.ntmps53
 go_wp2_with (go_at_call 48;refine R0.mono ?_;rintro e w1 ⟨rfl,hb⟩;have K1:=Hd.mk hb;clear hb)
 clear R0
 have hbw:Below w.heap.size w w1:=HB.out.trans (K1.out.mono (by simp;omega))
 have hsz:w.heap.size+2<=w1.heap.size:=by have:=K1.out.size;simp at this;omega
 have hbox:w1.heap[w.heap.size]?=some (.cells #[.int .i64 i,.slice A1 l c1,.slice A2 cands.length c2,.slice A3 n3 c3,.slice A4 n4 c4] 26 (0,0)):=by
  rw[K1.out.block _ (by simp;omega),Below.heap_alloc _ _ _ (by simp)]
  exact Array.getElem?_push_size
 have hres:w1.heap[w.heap.size+1]?=some (.cells #[.int .i64 0,.slice none 0 0,.slice none 0 0,.slice none 0 0,.slice none 0 0] 26 (0,0)):=by
  rw[K1.out.block _ (by simp)]
  have:w.heap.size+1=(w.alloc (.cells #[.int .i64 i,.slice A1 l c1,.slice A2 cands.length c2,.slice A3 n3 c3,.slice A4 n4 c4] 26)).heap.size:=by simp
  rw[this]
  exact Array.getElem?_push_size
 have e0:w1.cell? ⟨w.heap.size,0,none⟩=some (.int .i64 i):=by simp[World.cell?,hbox]
 have e1:w1.cell? ⟨w.heap.size,1,none⟩=some (.slice A1 l c1):=by simp[World.cell?,hbox]
 have e2:w1.cell? ⟨w.heap.size,2,none⟩=some (.slice A2 cands.length c2):=by simp[World.cell?,hbox]
 have e3:w1.cell? ⟨w.heap.size,3,none⟩=some (.slice A3 n3 c3):=by simp[World.cell?,hbox]
 have e4:w1.cell? ⟨w.heap.size,4,none⟩=some (.slice A4 n4 c4):=by simp[World.cell?,hbox]
 have KW:=Hd.mk hbw;have KX:=Hd.mk hbox;have KR:=Hd.mk hres
 clear hbw hbox hres K1 HB
 have hgcell:∀k:Nat,k<N->w1.cell? ⟨Gb,Go+k,none⟩=some (.int .i64 (given.getD k 0)):=fun k hk=>by
  refine(KW.out.cell (p:=⟨Gb,Go+k,none⟩) hGl).trans (HG.out k _ ?_)
  rw[List.getElem?_eq_getElem (by omega)]
  simp[List.getD,List.getElem?_eq_getElem (show k<given.length by omega)]
 have HC:=Hd.mk hgcell
 clear hgcell
 go_loop [39] (fun j=>∃k:Nat,k<=N/\j = .int .i64 k) (fun j=>N-(intOf j).toNat)
 case atStart=>exact⟨0,Nat.zero_le _,rfl⟩
 case round=>
  obtain⟨k,hk,rfl⟩:=hrel
  by_cases hkN:k<N
  .have hcell:=HC.out k hkN
   obtain⟨hg1,hg2⟩:=Hgiv.out k hkN
   have hg3:=HGi.out k hkN
   generalize given.getD k 0=gk at hcell hg1 hg2 hg3
   by_cases hz:0<=gk
   .have hg4:=hg3 hz
    clear hg3
    go_wp2
    all_goals go_round
    case rel=>exact⟨k+1,by omega,by go_num⟩
    case measure=>simp[intOf];omega
   .clear hg3
    go_wp2
    all_goals go_round
    case rel=>exact⟨k+1,by omega,by go_num⟩
    case measure=>simp[intOf];omega
  .have hkE:k=N:=by omega
   subst hkE
   have hmk:=Ea k hN
   have hmf:∀(fn:Fn) (first cap:Array Value) (w:World),(Instr.makeFunc fn first cap).run Tryz.prog w = .ok (.func fn first cap) w:=fun _ _ _ _=>rfl
   have hbF:Below w.heap.size w (w1.alloc (.cells #[.int .i64 i,.slice A1 l c1,.slice none 0 0,.slice A3 n3 c3,.slice A4 n4 c4] 26)):=KW.out.trans ((Below.refl _ w1).alloc (by omega) _)
   have KF:=Hd.mk hbF
   clear hbF
   go_wp2_with (go_at_call 70;refine(Nc i l c1 n3 c3 n4 c4 A1 A3 A4 (jn lat) p3 p4 _ l1 (fun W hb=>H1.out W (KF.out.trans (hb.mono (by simp;omega)))) (fun W hb=>H3.out W (KF.out.trans (hb.mono (by simp;omega)))) (fun W hb=>H4.out W (KF.out.trans (hb.mono (by simp;omega))))).mono ?_;rintro e w2 ⟨rfl,s1,s3,s4,m1,m2,hbeg,hs1,hs3,hs4,hm1,hm2,hm3⟩;have HM:=Hd.mk (And.intro hm1 (And.intro hm2 hm3));clear hm1 hm2 hm3;obtain⟨t1A,t1c,rfl⟩:=hs1.slice;obtain⟨t3A,t3c,rfl⟩:=hs3.slice;obtain⟨t4A,t4c,rfl⟩:=hs4.slice;have B1:=Hd.mk hbeg;have B2:=Hd.mk hs1;have B3:=Hd.mk hs3;have B4:=Hd.mk hs4;have hb12:=KF.out.trans (hbeg.bel.mono (by simp;omega));have box2:w2.heap[w.heap.size]?=_:=(hbeg.bel.block w.heap.size (by simp;omega)).trans ((Below.heap_alloc _ _ _ (by omega)).trans KX.out);have res2:w2.heap[w.heap.size+1]?=_:=(hbeg.bel.block (w.heap.size+1) (by simp;omega)).trans ((Below.heap_alloc _ _ _ (by omega)).trans KR.out);have sz2:=hbeg.size;simp only[World.size_alloc]at sz2;have hlt2:w.heap.size<w2.heap.size:=by { omega };have a0:w2.cell? ⟨w.heap.size,0,none⟩=some (.int .i64 i):=by { simp[World.cell?,box2] };have a1:w2.cell? ⟨w.heap.size,1,none⟩=some (.slice A1 l c1):=by { simp[World.cell?,box2] };have B5:=Hd.mk hb12;have B6:=Hd.mk box2;have B7:=Hd.mk res2;clear hbeg hs1 hs3 hs4 hb12 box2 res2)
   have hnew:∀(w:World) (o:Obj) (j:Nat),j=w.heap.size->(w.alloc o).heap[j]?=some o:=fun w o j hj=>by subst hj;exact Array.getElem?_push_size
   have hW0:Fx.Ok ⟨w.heap.size,w1.heap.size+1+2,w1.heap.size+1+1,w2.heap.size,w2.heap.size+1,w2.heap.size+2,i,l,A1,c1,A2,c2,.slice A3 n3 c3,.slice A4 n4 c4,t1A,t1c,.slice t3A n3 t3c,.slice t4A n4 t4c,gate,k,cands,given,Gb,Go,w1.heap.size+1⟩
     ((w2.alloc (.cells (Array.replicate k (.int .i64 0)) 3)).alloc (.cells #[.slice (some ⟨w2.heap.size,0,none⟩) k k] 24)):=by
    have hlow:∀j,j<w2.heap.size->((w2.alloc (.cells (Array.replicate k (.int .i64 0)) 3)).alloc (.cells #[.slice (some ⟨w2.heap.size,0,none⟩) k k] 24)).heap[j]?=w2.heap[j]?:=fun j hj=>by
     rw[Below.heap_alloc _ _ _ (by simp;omega),Below.heap_alloc _ _ _ hj]
    refine⟨by simp,(hlow _ hlt2).trans B6.out,hnew _ _ _ (by simp),?_,?_,?_,?_,HK.out,HGt.out,i0,i1,l1⟩
    .simp only[];omega
    .simp only[];omega
    .intro j hj
     refine(World.cell?_of_block (a:=⟨Gb,Go+j,none⟩) (hlow Gb (by omega))).trans ?_
     refine(B5.out.cell (p:=⟨Gb,Go+j,none⟩) hGl).trans (HG.out j _ ?_)
     rw[List.getElem?_eq_getElem (by simp only[]at hj;omega)]
     simp[List.getD,List.getElem?_eq_getElem (show j<given.length by simp only[]at hj;omega)]
    .intro j g hg
     obtain⟨b,o,q1,q2,q3,q4⟩:=HD.out j g hg
     exact⟨b,o,q1,q2,(World.cell?_of_block (a:=⟨b,o+j*2,none⟩) (hlow b (by omega))).trans ((B5.out.cell (p:=⟨b,o+j*2,none⟩) q2).trans q3),(World.cell?_of_block (a:=⟨b,o+j*2+1,none⟩) (hlow b (by omega))).trans ((B5.out.cell (p:=⟨b,o+j*2+1,none⟩) q2).trans q4)⟩
   have hL0:LI ⟨w.heap.size,w1.heap.size+1+2,w1.heap.size+1+1,w2.heap.size,w2.heap.size+1,w2.heap.size+2,i,l,A1,c1,A2,c2,.slice A3 n3 c3,.slice A4 n4 c4,t1A,t1c,.slice t3A n3 t3c,.slice t4A n4 t4c,gate,k,cands,given,Gb,Go,w1.heap.size+1⟩
     ((w2.alloc (.cells (Array.replicate k (.int .i64 0)) 3)).alloc (.cells #[.slice (some ⟨w2.heap.size,0,none⟩) k k] 24)) 0
     ((w2.alloc (.cells (Array.replicate k (.int .i64 0)) 3)).alloc (.cells #[.slice (some ⟨w2.heap.size,0,none⟩) k k] 24)):=by
    have hbel:Below w2.heap.size w2 ((w2.alloc (.cells (Array.replicate k (.int .i64 0)) 3)).alloc (.cells #[.slice (some ⟨w2.heap.size,0,none⟩) k k] 24)):=((Below.refl _ w2).alloc (Nat.le_refl _) _).alloc (by simp) _
    refine⟨⟨.slice none 0 0,?_,fun j hj=>by cases hj⟩,?_,Left.refl _ _⟩
    .have hb:=B1.out
     have hk0:cY (2*(gate:Int)) ([]:List (Int×Int))=fun _=>none:=rfl
     have e9:(w1.alloc (.cells #[.int .i64 i,.slice A1 l c1,.slice none 0 0,.slice A3 n3 c3,.slice A4 n4 c4] 26)).heap.size=w1.heap.size+1:=by simp
     have h1:=hb.blk;have h2:=hb.map
     rw[e9]at h1 h2
     have:Ga (w1.heap.size+1+2) (w1.heap.size+1+1) (w1.heap.size+1) i t1A l t1c (.slice t3A n3 t3c) (.slice t4A n4 t4c) (.slice none 0 0) [] (cY (2*(gate:Int)) []) w2:=by
      rw[hk0]
      exact⟨h1,World.ownsRow_nil _ _ _ _,h2,by omega,by omega⟩
     exact this.more hbel
    .refine⟨_,3,(Below.heap_alloc _ _ _ (by simp)).trans (hnew _ _ _ rfl),by simp,fun j x hx=>?_⟩
     have hj:j<k:=by
      have:=(List.getElem?_eq_some_iff.1 hx).1
      simpa[dC]using this
     simp only[dC,List.nil_append,Nat.sub_zero]at hx
     rw[List.getElem?_replicate_of_lt hj]at hx
     cases hx
     simp[hj]
   have sz1:w1.heap.size+4<=w2.heap.size:=by omega
   generalize hWW:((w2.alloc (.cells (Array.replicate k (.int .i64 0)) 3)).alloc (.cells #[.slice (some ⟨w2.heap.size,0,none⟩) k k] 24))=W0 at hW0 hL0 ⊢
   have HWW:=Hd.mk hWW
   have G0:=Hd.mk hW0;have GL:=Hd.mk hL0
   clear hWW hW0 hL0 hmk hmf a0 a1
   go_loopw [81] (fun j wr=>∃n:Nat,n<=k/\j = .int .i64 n/\LI ⟨w.heap.size,w1.heap.size+1+2,w1.heap.size+1+1,w2.heap.size,w2.heap.size+1,w2.heap.size+2,i,l,A1,c1,A2,c2,.slice A3 n3 c3,.slice A4 n4 c4,t1A,t1c,.slice t3A n3 t3c,.slice t4A n4 t4c,gate,k,cands,given,Gb,Go,w1.heap.size+1⟩ W0 n wr) (fun j _=>k-(intOf j).toNat)
   case atStart=>exact⟨0,Nat.zero_le _,rfl,GL.out⟩
   case round=>
    obtain⟨n,hn,rfl,hI⟩:=hrel
    by_cases hnk:n<k
    .have hlf:=hI.lf G0.out ⟨by simp only[];omega,by simp only[];omega,by simp only[];omega⟩ hnk
     have htb:=p5 HK.out n hn
     have hgv:=Hgiv.out n hnk
     have q1:wr.cell? ⟨w2.heap.size+1,0,none⟩=some (.slice (some ⟨w2.heap.size,0,none⟩) k k):=hlf.tc
     have q2:wr.cell? ⟨Gb,Go+n,none⟩=some (.int .i64 (given.getD n 0)):=hlf.giv
     have q4:wr.cell? ⟨w2.heap.size,n,none⟩=some (.int .i64 0):=hlf.tn
     have q5:wr.frozen? ⟨w2.heap.size,n,none⟩=false:=hlf.fz
     have q6:∀x:Int,0<=x->x/2<(n:Int)->wr.cell? ⟨w2.heap.size,(x/2).toNat,none⟩=some (.int .i64 ((dC (2*(gate:Int)) gate cands given n).1.getD (x/2).toNat 0)):=hlf.at'
     have KI:=Hd.mk hI;have KB:=Hd.mk htb;have K6:=Hd.mk q6;have KLF:=Hd.mk hlf
     have hstep:∀x a,pQ (2*(gate:Int)) gate cands given (dC (2*(gate:Int)) gate cands given n)=((dC (2*(gate:Int)) gate cands given n).1++[x],a)->∀wb:World,Flat wb w2.heap.size 0 k ((dC (2*(gate:Int)) gate cands given n).1++List.replicate (k-n) 0)->Left (fun j=>j=w1.heap.size+1+2\/j=w1.heap.size+1+1\/j=w2.heap.size) W0 wb->(∃va,Ga (w1.heap.size+1+2) (w1.heap.size+1+1) (w1.heap.size+1) i t1A l t1c (.slice t3A n3 t3c) (.slice t4A n4 t4c) va a (cY (2*(gate:Int)) a) wb/\∀j,va.ownBlock=some j->w2.heap.size+2<=j)->LI ⟨w.heap.size,w1.heap.size+1+2,w1.heap.size+1+1,w2.heap.size,w2.heap.size+1,w2.heap.size+2,i,l,A1,c1,A2,c2,.slice A3 n3 c3,.slice A4 n4 c4,t1A,t1c,.slice t3A n3 t3c,.slice t4A n4 t4c,gate,k,cands,given,Gb,Go,w1.heap.size+1⟩ W0 (n+1) (wb.setCell ⟨w2.heap.size,n,none⟩ (.int .i64 x)):=
      fun x a hs wb f1 f2 f3=>LI.told (F:=⟨w.heap.size,w1.heap.size+1+2,w1.heap.size+1+1,w2.heap.size,w2.heap.size+1,w2.heap.size+2,i,l,A1,c1,A2,c2,.slice A3 n3 c3,.slice A4 n4 c4,t1A,t1c,.slice t3A n3 t3c,.slice t4A n4 t4c,gate,k,cands,given,Gb,Go,w1.heap.size+1⟩) hnk hI hs G0.out f1 f2 f3 (by simp only[];omega)
     have KS:=Hd.mk hstep
     clear hI htb q6 hlf hstep
     by_cases hz:0<=given.getD n 0
     .obtain⟨t,ht⟩:∃t,t=given.getD n 0:=⟨_,rfl⟩
      rw[<-ht]at q2 hz hgv
      have q7:=K6.out t hz (by omega)
      obtain⟨u0,u1⟩:=KB.out.lit (t/2).toNat (by omega)
      have hof:=fun W h1 h2=>MC (w2.heap.size+1) w2.heap.size k t _ W hz (by omega) u0 (by omega) (by omega) h1 h2
      have KO:=Hd.mk hof;have HT:=Hd.mk ht
      clear hof ht q7
      go_wp2
      have q1':wr.drew.cell? ⟨w2.heap.size+1,0,none⟩=some (.slice (some ⟨w2.heap.size,0,none⟩) k k):=q1
      have q2':wr.drew.cell? ⟨Gb,Go+n,none⟩=some (.int .i64 t):=q2
      have q4':wr.drew.cell? ⟨w2.heap.size,n,none⟩=some (.int .i64 0):=q4
      have q5':wr.drew.frozen? ⟨w2.heap.size,n,none⟩=false:=q5
      have q7':wr.drew.cell? ⟨w2.heap.size,(t/2).toNat,none⟩=_:=K6.out t hz (by omega)
      have KD:=Hd.mk (KI.out.more (w':=wr.drew) ⟨rfl,rfl,rfl,Nat.le_refl _,fun _ _=>rfl⟩)
      have q7:wr.cell? ⟨w2.heap.size,(t/2).toNat,none⟩=_:=K6.out t hz (by omega)
      generalize hwd:wr.drew=wD at q1' q2' q4' q5' q7' KD
      go_still_tail 9,(by kernel_rfl)
      still_call (KO.out _ q1' q7')
      repeat still_step
      refine wpStill_nil ?_
      change wpList _ _ _ _ _ wr.drew
      rw[hwd]
      clear hwd
      go_wp2
      all_goals go_roundw
      case rel=>
       refine⟨n+1,by omega,by go_num,KS.out _ _ ?_ _ KD.out.row KD.out.left KD.out.bld⟩
       unfold pQ kB
       rw[dZ,if_pos (by rw[<-HT.out];exact hz),<-HT.out]
       rfl
      case measure=>simp[intOf];omega
     .have hz':given.getD n 0<0:=by omega
      obtain⟨t,ht⟩:∃t,t=given.getD n 0:=⟨_,rfl⟩
      rw[<-ht]at q2 hz'
      have HT:=Hd.mk ht
      have HZ:=Hd.mk hz
      have hgI:=HGt.out
      clear ht hz hgv
      by_cases hgn:n<gate
      .have hgn':(n:Int)<i+l+1:=by omega
       clear hgI
       go_wp2
       all_goals go_roundw
       case rel=>
        refine⟨n+1,by omega,by go_num,KS.out _ _ ?_ _ KI.out.row KI.out.left KI.out.bld⟩
        unfold pQ
        rw[dZ,if_neg HZ.out,if_pos hgn]
       case measure=>simp[intOf];omega
      .obtain⟨m,hm⟩:∃m,n=gate+m:=⟨n-gate,by omega⟩
       have hm2:m<cands.length:=by have:=HL.out;omega
       have hgn':i+(l:Int)+1<=(n:Int):=by omega
       have hsub:(n:Int)-(i+l+1)=(m:Int):=by omega
       have hcl:cands.length<=1000000:=by have:=HL.out;omega
       have hm3:(m:Int)<(cands.length:Int):=by omega
       have hm4:(0:Int)<=(m:Int):=by omega
       have hwr:IntKind.i64.wrap (m:Int)=(m:Int):=by rw[IntKind.wrap_i64];omega
       obtain⟨p,hp⟩:∃p,cands[m]?=some p:=⟨_,List.getElem?_eq_getElem hm2⟩
       obtain⟨p1,p2,p3⟩:=HK.out.gates m p hp
       have f1:(0:Int)<=p.1:=by omega
       have f2:p.1/2<(n:Int):=by omega
       have f3:(0:Int)<=p.2:=by omega
       have f4:p.2/2<(n:Int):=by omega
       obtain⟨b,o,hA2,d0,d1⟩:=KLF.out.data p (by show cands[n-gate]?=some p;rw[show n-gate=m by omega];exact hp)
       have hmE:n-gate=m:=by omega
       rw[show n-Fx.gate _=m from hmE]at d0 d1
       have hA2':A2=some ⟨b,o,none⟩:=hA2
       subst hA2'
       have r2:wr.cell? ⟨w.heap.size,2,none⟩=some (.slice (some ⟨b,o,none⟩) cands.length c2):=by simp[World.cell?,KLF.out.box]
       have hof:∀x:Int,0<=x->x/2<(n:Int)->Calls Tryz.prog 71 #[.int .i64 x,.pointer (some ⟨w2.heap.size+1,0,none⟩)] wr.drew fun e w'=>e = .returned (.int .i64 (gG ((dC (2*(gate:Int)) gate cands given n).1.getD (x/2).toNat 0) x))/\w'=wr.drew:=fun x x0 x1=>by
        obtain⟨u0,u1⟩:=KB.out.lit (x/2).toNat (by omega)
        exact MC (w2.heap.size+1) w2.heap.size k x _ wr.drew x0 (by omega) u0 (by omega) (by omega) q1 (K6.out x x0 x1)
       have KO:=Hd.mk hof
       clear hof
       have KD:=Hd.mk (KI.out.more (w':=wr.drew) ⟨rfl,rfl,rfl,Nat.le_refl _,fun _ _=>rfl⟩)
       obtain⟨va,hBl,hva⟩:=KD.out.bld
       have hands:=KB.out.ands
       obtain⟨a0,a1⟩:=KB.out.at (x:=p.1) (by omega) (by omega)
       obtain⟨a2,a3⟩:=KB.out.at (x:=p.2) (by omega) (by omega)
       have hand:=Oy (Bb:=w1.heap.size+1+2) (Mb:=w1.heap.size+1+1) (base:=w1.heap.size+1) (i:=i) (l:=l) (A1:=t1A) (c1:=t1c) (s3:=.slice t3A n3 t3c) (s4:=.slice t4A n4 t4c) (ands:=(dC (2*(gate:Int)) gate cands given n).2) (2*(gate:Int)) (by omega) hBl (kB (dC (2*(gate:Int)) gate cands given n).1 p.1) (kB (dC (2*(gate:Int)) gate cands given n).1 p.2) a0 a2 (by omega) (by omega) i0 i1 l1 (by have:=HK.out.cl;have:=HL.out;omega)
       unfold kB at hand
       have HA:=Hd.mk hand;have HV:=Hd.mk hva;have HH:=Hd.mk hp;have HS:=Hd.mk hsub;have HME:=Hd.mk hm
       clear hm hmE hp hand hva hBl hands a0 a1 a2 a3 hgI
       go_wp2
       have q1':wr.drew.cell? ⟨w2.heap.size+1,0,none⟩=some (.slice (some ⟨w2.heap.size,0,none⟩) k k):=q1
       have r2':wr.drew.cell? ⟨w.heap.size,2,none⟩=some (.slice (some ⟨b,o,none⟩) cands.length c2):=r2
       have d0':wr.drew.cell? ⟨b,o+m*2,none⟩=some (.int .i64 p.1):=d0
       have d1':wr.drew.cell? ⟨b,o+m*2+1,none⟩=some (.int .i64 p.2):=d1
       clear q1 q2 q4 q5 r2 d0 d1
       have hbH:b<w.heap.size:=by
        obtain⟨b',o',z1,z2,_⟩:=HD.out m p HH.out
        cases z1
        exact z2
       have hWs:W0.heap.size=w2.heap.size+2:=G0.out.size
       clear H1 H3 H4 HD HG HGi Hgiv HC KW KX KR KF B1 B2 B3 B4 B5 B6 B7 HM KI K6 KLF e0 e1 e2 e3 e4
       go_region_held3 (fun w'=>w'.cell? ⟨w2.heap.size+1,0,none⟩=some (.slice (some ⟨w2.heap.size,0,none⟩) k k)/\w'.cell? ⟨w.heap.size,2,none⟩=some (.slice (some ⟨b,o,none⟩) cands.length c2)/\w'.cell? ⟨b,o+m*2,none⟩=some (.int .i64 p.1)/\w'.cell? ⟨b,o+m*2+1,none⟩=some (.int .i64 p.2)) (first|exact⟨q1',r2',d0',d1'⟩|exact⟨k1,k2,k3,k4⟩|exact⟨xb k1 (by omega),xb k2 (by omega),xb k3 (by omega),xb k4 (by omega)⟩|go_keep)
        (first|(go_at_call 71;refine(KO.out _ (by assumption) (by assumption)).mono ?_;rintro e w' ⟨rfl,rfl⟩)|(go_at_call 72;refine HA.out.mono ?_;rintro e wb hA;have hA0:=hA.1;subst hA0;have hG:=LI.gate (F:=⟨w.heap.size,w1.heap.size+1+2,w1.heap.size+1+1,w2.heap.size,w2.heap.size+1,w2.heap.size+2,i,l,A1,c1,some ⟨b,o,none⟩,c2,.slice A3 n3 c3,.slice A4 n4 c4,t1A,t1c,.slice t3A n3 t3c,.slice t4A n4 t4c,gate,k,cands,given,Gb,Go,w1.heap.size+1⟩) G0.out (by show w2.heap.size<w2.heap.size+2;omega) KD.out HV.out hA;have k1:=wW KD.out.left hG.2.1 (by omega) (by show ¬(w2.heap.size+1=w1.heap.size+1+2\/w2.heap.size+1=w1.heap.size+1+1\/w2.heap.size+1=w2.heap.size);omega) q1';have k2:=wW KD.out.left hG.2.1 (by omega) (by show ¬(w.heap.size=w1.heap.size+1+2\/w.heap.size=w1.heap.size+1+1\/w.heap.size=w2.heap.size);omega) r2';have k3:=wW KD.out.left hG.2.1 (by omega) (by show ¬(b=w1.heap.size+1+2\/b=w1.heap.size+1+1\/b=w2.heap.size);omega) d0';have k4:=wW KD.out.left hG.2.1 (by omega) (by show ¬(b=w1.heap.size+1+2\/b=w1.heap.size+1+1\/b=w2.heap.size);omega) d1';have k5:wb.cell? ⟨w2.heap.size,n,none⟩=some (.int .i64 0):=by { have:=hG.1.cell (j:=n) (BH hnk);simpa using this };have k6:wb.frozen? ⟨w2.heap.size,n,none⟩=false:=hG.1.frozen n;have KG:=Hd.mk hG;clear hG hA))
       clear k1 k2 k3 k4 k5 k6 q1' r2' d0' d1'
       go_wp2
       all_goals go_roundw
       case rel=>
        refine⟨n+1,by omega,by go_num,KS.out _ _ ?_ _ KG.out.1 KG.out.2.1 KG.out.2.2⟩
        unfold pQ
        rw[dZ,if_neg (by have:=HZ.out;omega),if_neg hgn]
        have e1:n-gate=m:=by have:=HME.out;omega
        have e2:cands.getD m (0,0)=p:=by simp[List.getD,HH.out]
        simp only[e1,e2]
        rfl
       case measure=>simp[intOf];omega
    .have hnE:n=k:=by omega
     subst hnE
     have hcl1:=HM.out
     have hJ:LJ ⟨w.heap.size,w1.heap.size+1+2,w1.heap.size+1+1,w2.heap.size,w2.heap.size+1,w2.heap.size+2,i,l,A1,c1,A2,c2,.slice A3 n3 c3,.slice A4 n4 c4,t1A,t1c,.slice t3A n3 t3c,.slice t4A n4 t4c,gate,n,cands,given,Gb,Go,w1.heap.size+1⟩ (w1.heap.size+4) m1 m2 t3A t4A n3 t3c n4 t4c (dC (2*(gate:Int)) gate cands given n).1 (dC (2*(gate:Int)) gate cands given n).2 W0 (sf (fun g=>(kB (dC (2*(gate:Int)) gate cands given n).1 g.1,g.2)) lat 0) (sf (kB (dC (2*(gate:Int)) gate cands given n).1) p3 0) (sf (kB (dC (2*(gate:Int)) gate cands given n).1) p4 0) wr:=by
      have hsF:(w1.alloc (.cells #[.int .i64 i,.slice A1 l c1,.slice none 0 0,.slice A3 n3 c3,.slice A4 n4 c4] 26)).heap.size=w1.heap.size+1:=by simp
      rw[hsF]at hcl1
      obtain⟨hm1,hm2,hm3⟩:=hcl1
      have hmv:∀b,w1.heap.size+4<=b->b<w2.heap.size->wr.heap[b]?=w2.heap[b]?:=fun b h1 h2=>by
       rw[hI.left.block b (by rw[G0.out.size];simp only[];omega) (by simp only[];omega),<-HWW.out,Below.heap_alloc _ _ _ (by simp;omega),Below.heap_alloc _ _ _ h2]
      have c1':=B2.out;have c3':=B3.out;have c4':=B4.out
      rw[hsF]at c1'
      refine⟨hI.bld,?_,hI.left.mono (fun j hj=>by rcases hj with h|h|h<;>simp[h]),?_,?_,?_,?_⟩
      .have:=hI.row
       simpa using this
      .rw[zN]
       exact Cl.moved c1' (fun b h1 h2=>hmv b (by omega) (by omega)) (by omega)
      .rw[zN]
       exact Cl.moved c3' (fun b h1 h2=>hmv b (by omega) (by omega)) (Nat.le_refl _)
      .rw[zN]
       exact Cl.moved c4' (fun b h1 h2=>hmv b (by omega) (by omega)) (Nat.le_refl _)
      .simp only[]
       omega
     have KJ:=Hd.mk hJ
     have KB:=Hd.mk (p5 HK.out n (Nat.le_refl _))
     obtain⟨r1,r2,⟨va,r3⟩,-⟩:=hJ.reads G0.out
     have r4:wr.cell? ⟨w1.heap.size+1+2,1,none⟩=some (.slice t1A l t1c):=by simp[World.cell?,r3]
     clear hI hJ r2 r3
     obtain⟨told,htold⟩:∃t,t=(dC (2*(gate:Int)) gate cands given n).1:=⟨_,rfl⟩
     obtain⟨ands,hands⟩:∃t,t=(dC (2*(gate:Int)) gate cands given n).2:=⟨_,rfl⟩
     have hofx:∀(W:World),W.cell? ⟨w2.heap.size+1,0,none⟩=some (.slice (some ⟨w2.heap.size,0,none⟩) n n)->Flat W w2.heap.size 0 n told->∀x:Int,0<=x->x/2<(n:Int)->Calls Tryz.prog 71 #[.int .i64 x,.pointer (some ⟨w2.heap.size+1,0,none⟩)] W fun e w'=>e = .returned (.int .i64 (kB told x))/\w'=W:=fun W h1 h2 x x0 x1=>by
      subst htold
      obtain⟨u0,u1⟩:=KB.out.lit (x/2).toNat (by omega)
      refine MC (w2.heap.size+1) w2.heap.size n x _ W x0 (by omega) u0 (by omega) x1 h1 ?_
      have:=h2.cell (j:=(x/2).toNat) (x:=(dC (2*(gate:Int)) gate cands given n).1.getD (x/2).toNat 0) (by
       have hl:=KB.out.len
       rw[List.getElem?_eq_getElem (by omega)]
       simp[List.getD,List.getElem?_eq_getElem (show(x/2).toNat<(dC (2*(gate:Int)) gate cands given n).1.length by omega)])
      simpa using this
     have HW0:Hd (∀b o x,b<w.heap.size->w.cell? ⟨b,o,none⟩=x->W0.cell? ⟨b,o,none⟩=x):=⟨fun b o x hb hx=>by
      rw[<-HWW.out]
      refine(World.cell?_of_block (a:=⟨b,o,none⟩) ?_).trans ((B5.out.cell (p:=⟨b,o,none⟩) hb).trans hx)
      rw[Below.heap_alloc _ _ _ (by simp;omega),Below.heap_alloc _ _ _ (by show b<_;omega)]⟩
     have KO:=Hd.mk hofx
     rw[<-htold,<-hands]at KJ
     have KT:=Hd.mk htold;have KA:=Hd.mk hands
     have hl1:=Hll.out;have hl3:=H3l.out;have hl4:=H4l.out
     have KL1:=Hd.mk hl1;have KL3:=Hd.mk hl3;have KL4:=Hd.mk hl4
     clear htold hands hofx hl1 hl3 hl4
     obtain⟨wo,hwo⟩:∃wo:World,wo=wr:=⟨_,rfl⟩
     rw[<-hwo]at KJ r1 r4 ⊢
     clear hwo
     clear wr
     go_wp2
     go_loopw [140] (fun j wr=>∃q:Nat,q<=l/\j = .int .i64 q/\LJ ⟨w.heap.size,w1.heap.size+1+2,w1.heap.size+1+1,w2.heap.size,w2.heap.size+1,w2.heap.size+2,i,l,A1,c1,A2,c2,.slice A3 n3 c3,.slice A4 n4 c4,t1A,t1c,.slice t3A n3 t3c,.slice t4A n4 t4c,gate,n,cands,given,Gb,Go,w1.heap.size+1⟩ (w1.heap.size+4) m1 m2 t3A t4A n3 t3c n4 t4c told ands W0 (sf (fun g=>(kB told g.1,g.2)) lat q) (sf (kB told) p3 0) (sf (kB told) p4 0) wr) (fun j _=>l-(intOf j).toNat)
     case atStart=>exact⟨0,Nat.zero_le _,rfl,KJ.out⟩
     case round=>
      obtain⟨q,hq,rfl,hI⟩:=hrel
      by_cases hql:q<l
      .obtain⟨g,hg⟩:∃g,lat[q]?=some g:=⟨_,List.getElem?_eq_getElem (by rw[KL1.out];exact hql)⟩
       obtain⟨⟨x0,x1⟩,b,o,hA1,hb,hc⟩:=HLt.out q g hg
       obtain⟨b1,o1,e1',e2',e3',e4'⟩:=AF hI.c1 (mC _ _ _ ((sO _ _ _).trans hg)).1
       have e1'':t1A=some ⟨b1,o1,none⟩:=e1'
       obtain⟨s1,s2,⟨va',s3⟩,s4⟩:=hI.reads G0.out
       have d0:=s4 b (o+q*2) _ hb (HW0.out _ _ _ hb hc)
       subst hA1;subst e1''
       have a1:wr.drew.cell? ⟨w1.heap.size+1+2,1,none⟩=some (.slice (some ⟨b1,o1,none⟩) l t1c):=by
        show wr.cell? _=_
        simp[World.cell?,s3]
       have a2:wr.drew.cell? ⟨w.heap.size,1,none⟩=some (.slice (some ⟨b,o,none⟩) l c1):=by
        show wr.cell? _=_
        simp[World.cell?,s2]
       have a3:wr.drew.cell? ⟨w2.heap.size+1,0,none⟩=some (.slice (some ⟨w2.heap.size,0,none⟩) n n):=s1
       have a4:wr.drew.cell? ⟨b,o+q*2,none⟩=some (.int .i64 g.1):=d0
       have a5:wr.drew.cell? ⟨b1,o1+q*2,none⟩=some (.int .i64 g.1):=e3'
       have a6:wr.drew.frozen? ⟨b1,o1+q*2,none⟩=false:=e4' _
       have KD:=Hd.mk (hI.more (w':=wr.drew) ⟨rfl,rfl,rfl,Nat.le_refl _,fun _ _=>rfl⟩)
       have KC:=Hd.mk (KO.out wr.drew a3 KD.out.row g.1 x0 x1)
       have KG:=Hd.mk hg
       clear hI hc hg s1 s2 s3 s4 d0 e1' e2' e3' e4' r1 r4
       go_wp2
       generalize hwd:wr.drew=wD at a1 a2 a3 a4 a5 a6 KD KC
       go_still_tail 16,(by kernel_rfl)
       trace_state
       still_call KC.out
       repeat still_step
       refine wpStill_nil ?_
       change wpList _ _ _ _ _ wr.drew
       rw[hwd]
       clear hwd
       go_wp2
       all_goals go_roundw
       case rel=>
        have e:=Bu (fun g:Int×Int=>(kB told g.1,g.2)) lat q g KG.out
        refine⟨q+1,by omega,by go_num,?_⟩
        rw[<-e]
        exact KD.out.set1 rfl ((sO _ _ _).trans KG.out)
       case measure=>simp[intOf];omega
      .have hqE:l=q:=by omega
       subst hqE
       obtain⟨s1,s2,⟨va',s3⟩,-⟩:=hI.reads G0.out
       have b1:wr.cell? ⟨w.heap.size,3,none⟩=some (.slice A3 n3 c3):=by simp[World.cell?,s2]
       have KI:=Hd.mk hI
       obtain⟨wo,hwo⟩:∃wo:World,wo=wr:=⟨_,rfl⟩
       rw[<-hwo]at KI b1 ⊢
       clear hI s1 s2 s3 hwo
       clear wr
       go_wp2
       clear b1
       go_loopw [163] (fun j wr=>∃q':Nat,q'<=n3/\j = .int .i64 q'/\LJ ⟨w.heap.size,w1.heap.size+1+2,w1.heap.size+1+1,w2.heap.size,w2.heap.size+1,w2.heap.size+2,i,l,A1,c1,A2,c2,.slice A3 n3 c3,.slice A4 n4 c4,t1A,t1c,.slice t3A n3 t3c,.slice t4A n4 t4c,gate,n,cands,given,Gb,Go,w1.heap.size+1⟩ (w1.heap.size+4) m1 m2 t3A t4A n3 t3c n4 t4c told ands W0 (sf (fun g=>(kB told g.1,g.2)) lat l) (sf (kB told) p3 q') (sf (kB told) p4 0) wr) (fun j _=>n3-(intOf j).toNat)
       case atStart=>exact⟨0,Nat.zero_le _,rfl,KI.out⟩
       case round=>
        obtain⟨q',hq',rfl,hI⟩:=hrel
        by_cases hql':q'<n3
        .obtain⟨x,hg⟩:∃x,p3[q']?=some x:=⟨_,List.getElem?_eq_getElem (by rw[KL3.out];exact hql')⟩
         obtain⟨⟨x0,x1⟩,b,o,hA1,hb,hc⟩:=HP3.out q' x hg
         obtain⟨b1,o1,e1',e2',e3',e4'⟩:=AF hI.c3 ((sO _ _ _).trans hg)
         have e1'':t3A=some ⟨b1,o1,none⟩:=e1'
         obtain⟨s1,s2,⟨va',s3⟩,s4⟩:=hI.reads G0.out
         have d0:=s4 b (o+q') _ hb (HW0.out _ _ _ hb hc)
         subst hA1;subst e1''
         have a1:wr.drew.cell? ⟨w1.heap.size+1+2,3,none⟩=some (.slice (some ⟨b1,o1,none⟩) n3 t3c):=by
          show wr.cell? _=_
          simp[World.cell?,s3]
         have a3:wr.drew.cell? ⟨w2.heap.size+1,0,none⟩=some (.slice (some ⟨w2.heap.size,0,none⟩) n n):=s1
         have a5:wr.drew.cell? ⟨b1,o1+q',none⟩=some (.int .i64 x):=e3'
         have a6:wr.drew.frozen? ⟨b1,o1+q',none⟩=false:=e4' _
         have KD:=Hd.mk (hI.more (w':=wr.drew) ⟨rfl,rfl,rfl,Nat.le_refl _,fun _ _=>rfl⟩)
         have KC:=Hd.mk (KO.out wr.drew a3 KD.out.row x x0 x1)
         have KG:=Hd.mk hg
         clear hI hc hg s1 s2 s3 s4 e1' e2' e3' e4'
         go_wp2
         generalize hwd:wr.drew=wD at a1 a3 a5 a6 KD KC
         go_still_tail 10,(by kernel_rfl)
         still_call KC.out
         repeat still_step
         refine wpStill_nil ?_
         change wpList _ _ _ _ _ wr.drew
         rw[hwd]
         clear hwd
         go_wp2
         all_goals go_roundw
         case rel=>
          have e:=Bu (kB told) p3 q' x KG.out
          refine⟨q'+1,by omega,by go_num,?_⟩
          rw[<-e]
          exact KD.out.set3 rfl ((sO _ _ _).trans KG.out)
         case measure=>simp[intOf];omega
        .have hqE':n3=q':=by omega
         subst hqE'
         obtain⟨s1,s2,⟨va',s3⟩,-⟩:=hI.reads G0.out
         have b1:wr.cell? ⟨w.heap.size,4,none⟩=some (.slice A4 n4 c4):=by simp[World.cell?,s2]
         have KI:=Hd.mk hI
         obtain⟨wo,hwo⟩:∃wo:World,wo=wr:=⟨_,rfl⟩
         rw[<-hwo]at KI b1 ⊢
         clear hI s1 s2 s3 hwo
         clear wr
         go_wp2
         clear b1
         go_loopw [182] (fun j wr=>∃q':Nat,q'<=n4/\j = .int .i64 q'/\LJ ⟨w.heap.size,w1.heap.size+1+2,w1.heap.size+1+1,w2.heap.size,w2.heap.size+1,w2.heap.size+2,i,l,A1,c1,A2,c2,.slice A3 n3 c3,.slice A4 n4 c4,t1A,t1c,.slice t3A n3 t3c,.slice t4A n4 t4c,gate,n,cands,given,Gb,Go,w1.heap.size+1⟩ (w1.heap.size+4) m1 m2 t3A t4A n3 t3c n4 t4c told ands W0 (sf (fun g=>(kB told g.1,g.2)) lat l) (sf (kB told) p3 n3) (sf (kB told) p4 q') wr) (fun j _=>n4-(intOf j).toNat)
         case atStart=>exact⟨0,Nat.zero_le _,rfl,KI.out⟩
         case round=>
          obtain⟨q',hq',rfl,hI⟩:=hrel
          by_cases hql':q'<n4
          .obtain⟨x,hg⟩:∃x,p4[q']?=some x:=⟨_,List.getElem?_eq_getElem (by rw[KL4.out];exact hql')⟩
           obtain⟨⟨x0,x1⟩,b,o,hA1,hb,hc⟩:=HP4.out q' x hg
           obtain⟨b1,o1,e1',e2',e3',e4'⟩:=AF hI.c4 ((sO _ _ _).trans hg)
           have e1'':t4A=some ⟨b1,o1,none⟩:=e1'
           obtain⟨s1,s2,⟨va',s3⟩,s4⟩:=hI.reads G0.out
           have d0:=s4 b (o+q') _ hb (HW0.out _ _ _ hb hc)
           subst hA1;subst e1''
           have a1:wr.drew.cell? ⟨w1.heap.size+1+2,4,none⟩=some (.slice (some ⟨b1,o1,none⟩) n4 t4c):=by
            show wr.cell? _=_
            simp[World.cell?,s3]
           have a3:wr.drew.cell? ⟨w2.heap.size+1,0,none⟩=some (.slice (some ⟨w2.heap.size,0,none⟩) n n):=s1
           have a5:wr.drew.cell? ⟨b1,o1+q',none⟩=some (.int .i64 x):=e3'
           have a6:wr.drew.frozen? ⟨b1,o1+q',none⟩=false:=e4' _
           have KD:=Hd.mk (hI.more (w':=wr.drew) ⟨rfl,rfl,rfl,Nat.le_refl _,fun _ _=>rfl⟩)
           have KC:=Hd.mk (KO.out wr.drew a3 KD.out.row x x0 x1)
           have KG:=Hd.mk hg
           clear hI hc hg s1 s2 s3 s4 e1' e2' e3' e4'
           go_wp2
           generalize hwd:wr.drew=wD at a1 a3 a5 a6 KD KC
           go_still_tail 10,(by kernel_rfl)
           still_call KC.out
           repeat still_step
           refine wpStill_nil ?_
           change wpList _ _ _ _ _ wr.drew
           rw[hwd]
           clear hwd
           go_wp2
           all_goals go_roundw
           case rel=>
            have e:=Bu (kB told) p4 q' x KG.out
            refine⟨q'+1,by omega,by go_num,?_⟩
            rw[<-e]
            exact KD.out.set4 rfl ((sO _ _ _).trans KG.out)
           case measure=>simp[intOf];omega
          .have hqE':n4=q':=by omega
           subst hqE'
           obtain⟨s1,s2,-,-⟩:=hI.reads G0.out
           obtain⟨va',hbl,hva⟩:=hI.bld
           have s3:=hbl.blk
           have hown:=Hd.mk hbl.own
           obtain⟨gA,gn,gc2,rfl⟩:∃A k c,va' = .slice A k c:=by
            rcases hbl.own.2 with⟨h,_⟩|⟨g,cap,cur,h,_⟩
            .exact⟨_,_,_,h⟩
            .exact⟨_,_,_,h⟩
           have HVA:=Hd.mk hva
           clear hbl hva
           have hR:wr.heap[w.heap.size+1]?=some (.cells #[.int .i64 0,.slice none 0 0,.slice none 0 0,.slice none 0 0,.slice none 0 0] 26 (0,0)):=by
            have ho:=hI.ord
            simp only[]at ho
            rw[hI.left.block (w.heap.size+1) (by rw[G0.out.size];simp only[];omega) (by simp only[];omega),<-HWW.out,Below.heap_alloc _ _ _ (by simp;omega),Below.heap_alloc _ _ _ (by omega)]
            exact B7.out
           have z0:wr.drew.cell? ⟨w1.heap.size+1+2,0,none⟩=some (.int .i64 i):=by
            show wr.cell? _=_
            simp[World.cell?,s3]
           have z1:wr.drew.cell? ⟨w1.heap.size+1+2,1,none⟩=some (.slice t1A l t1c):=by
            show wr.cell? _=_
            simp[World.cell?,s3]
           have z2:wr.drew.cell? ⟨w1.heap.size+1+2,2,none⟩=some (.slice gA gn gc2):=by
            show wr.cell? _=_
            simp[World.cell?,s3]
           have z3:wr.drew.cell? ⟨w1.heap.size+1+2,3,none⟩=some (.slice t3A n3 t3c):=by
            show wr.cell? _=_
            simp[World.cell?,s3]
           have z4:wr.drew.cell? ⟨w1.heap.size+1+2,4,none⟩=some (.slice t4A n4 t4c):=by
            show wr.cell? _=_
            simp[World.cell?,s3]
           have z5:wr.drew.cell? ⟨w2.heap.size+1,0,none⟩=some (.slice (some ⟨w2.heap.size,0,none⟩) n n):=s1
           have h0:=hR
           have x0:(wr).cell? ⟨w.heap.size+1,0,none⟩=some (.int .i64 0):=by simp[World.cell?,h0]
           have y0:(wr).frozen? ⟨w.heap.size+1,0,none⟩=false:=by simp[World.frozen?,h0]
           have h1:=cw (u:=.int .i64 i) h0 (o:=0) (by simp)
           have x1:((wr).setCell ⟨w.heap.size+1,0,none⟩ (.int .i64 i)).cell? ⟨w.heap.size+1,1,none⟩=some (.slice none 0 0):=by simp[World.cell?,h1]
           have y1:((wr).setCell ⟨w.heap.size+1,0,none⟩ (.int .i64 i)).frozen? ⟨w.heap.size+1,1,none⟩=false:=by simp[World.frozen?,h1]
           have h2:=cw (u:=.slice t1A l t1c) h1 (o:=1) (by simp)
           have x2:(((wr).setCell ⟨w.heap.size+1,0,none⟩ (.int .i64 i)).setCell ⟨w.heap.size+1,1,none⟩ (.slice t1A l t1c)).cell? ⟨w.heap.size+1,2,none⟩=some (.slice none 0 0):=by simp[World.cell?,h2]
           have y2:(((wr).setCell ⟨w.heap.size+1,0,none⟩ (.int .i64 i)).setCell ⟨w.heap.size+1,1,none⟩ (.slice t1A l t1c)).frozen? ⟨w.heap.size+1,2,none⟩=false:=by simp[World.frozen?,h2]
           have h3:=cw (u:=.slice gA gn gc2) h2 (o:=2) (by simp)
           have x3:((((wr).setCell ⟨w.heap.size+1,0,none⟩ (.int .i64 i)).setCell ⟨w.heap.size+1,1,none⟩ (.slice t1A l t1c)).setCell ⟨w.heap.size+1,2,none⟩ (.slice gA gn gc2)).cell? ⟨w.heap.size+1,3,none⟩=some (.slice none 0 0):=by simp[World.cell?,h3]
           have y3:((((wr).setCell ⟨w.heap.size+1,0,none⟩ (.int .i64 i)).setCell ⟨w.heap.size+1,1,none⟩ (.slice t1A l t1c)).setCell ⟨w.heap.size+1,2,none⟩ (.slice gA gn gc2)).frozen? ⟨w.heap.size+1,3,none⟩=false:=by simp[World.frozen?,h3]
           have h4:=cw (u:=.slice t3A n3 t3c) h3 (o:=3) (by simp)
           have x4:(((((wr).setCell ⟨w.heap.size+1,0,none⟩ (.int .i64 i)).setCell ⟨w.heap.size+1,1,none⟩ (.slice t1A l t1c)).setCell ⟨w.heap.size+1,2,none⟩ (.slice gA gn gc2)).setCell ⟨w.heap.size+1,3,none⟩ (.slice t3A n3 t3c)).cell? ⟨w.heap.size+1,4,none⟩=some (.slice none 0 0):=by simp[World.cell?,h4]
           have y4:(((((wr).setCell ⟨w.heap.size+1,0,none⟩ (.int .i64 i)).setCell ⟨w.heap.size+1,1,none⟩ (.slice t1A l t1c)).setCell ⟨w.heap.size+1,2,none⟩ (.slice gA gn gc2)).setCell ⟨w.heap.size+1,3,none⟩ (.slice t3A n3 t3c)).frozen? ⟨w.heap.size+1,4,none⟩=false:=by simp[World.frozen?,h4]
           have h5:=cw (u:=.slice t4A n4 t4c) h4 (o:=4) (by simp)
           have KN:Hd (((((((wr).setCell ⟨w.heap.size+1,0,none⟩ (.int .i64 i)).setCell ⟨w.heap.size+1,1,none⟩ (.slice t1A l t1c)).setCell ⟨w.heap.size+1,2,none⟩ (.slice gA gn gc2)).setCell ⟨w.heap.size+1,3,none⟩ (.slice t3A n3 t3c)).setCell ⟨w.heap.size+1,4,none⟩ (.slice t4A n4 t4c)).heap[w.heap.size+1]?=some (.cells #[.int .i64 i,.slice t1A l t1c,.slice gA gn gc2,.slice t3A n3 t3c,.slice t4A n4 t4c] 26 (0,0))):=⟨by rw[h5];simp⟩
           have KM:Hd (∀k,k≠w.heap.size+1->((((((wr).setCell ⟨w.heap.size+1,0,none⟩ (.int .i64 i)).setCell ⟨w.heap.size+1,1,none⟩ (.slice t1A l t1c)).setCell ⟨w.heap.size+1,2,none⟩ (.slice gA gn gc2)).setCell ⟨w.heap.size+1,3,none⟩ (.slice t3A n3 t3c)).setCell ⟨w.heap.size+1,4,none⟩ (.slice t4A n4 t4c)).heap[k]?=wr.heap[k]?):=⟨fun k hk=>by
            rw[Below.heap_setCell _ _ _ _ hk,Below.heap_setCell _ _ _ _ hk,Below.heap_setCell _ _ _ _ hk,Below.heap_setCell _ _ _ _ hk,Below.heap_setCell _ _ _ _ hk]⟩
           have hWo:∀b o x,b≠w.heap.size+1->wr.cell? ⟨b,o,none⟩=x->((((((wr).setCell ⟨w.heap.size+1,0,none⟩ (.int .i64 i)).setCell ⟨w.heap.size+1,1,none⟩ (.slice t1A l t1c)).setCell ⟨w.heap.size+1,2,none⟩ (.slice gA gn gc2)).setCell ⟨w.heap.size+1,3,none⟩ (.slice t3A n3 t3c)).setCell ⟨w.heap.size+1,4,none⟩ (.slice t4A n4 t4c)).cell? ⟨b,o,none⟩=x:=fun b o x hb hx=>(World.cell?_of_block (a:=⟨b,o,none⟩) (KM.out b hb)).trans hx
           have k0:=hWo _ _ _ (by omega) z0
           have k1:=hWo _ _ _ (by omega) z1
           have k2:=hWo _ _ _ (by omega) z2
           have k3:=hWo _ _ _ (by omega) z3
           have k4:=hWo _ _ _ (by omega) z4
           have k5:=hWo _ _ _ (by omega) z5
           clear hWo h0 h1 h2 h3 h4 h5
           have KZ1:=Hd.mk KL1.out;have KZ3:=Hd.mk KL3.out;have KZ4:=Hd.mk KL4.out
           have KQ:Hd ((((((wr.setCell ⟨w.heap.size+1,0,none⟩ (.int .i64 i)).setCell ⟨w.heap.size+1,1,none⟩ (.slice t1A l t1c)).setCell ⟨w.heap.size+1,2,none⟩ (.slice gA gn gc2)).setCell ⟨w.heap.size+1,3,none⟩ (.slice t3A n3 t3c)).setCell ⟨w.heap.size+1,4,none⟩ (.slice t4A n4 t4c)).os=wr.os/\(((((wr.setCell ⟨w.heap.size+1,0,none⟩ (.int .i64 i)).setCell ⟨w.heap.size+1,1,none⟩ (.slice t1A l t1c)).setCell ⟨w.heap.size+1,2,none⟩ (.slice gA gn gc2)).setCell ⟨w.heap.size+1,3,none⟩ (.slice t3A n3 t3c)).setCell ⟨w.heap.size+1,4,none⟩ (.slice t4A n4 t4c)).tape=wr.tape/\(((((wr.setCell ⟨w.heap.size+1,0,none⟩ (.int .i64 i)).setCell ⟨w.heap.size+1,1,none⟩ (.slice t1A l t1c)).setCell ⟨w.heap.size+1,2,none⟩ (.slice gA gn gc2)).setCell ⟨w.heap.size+1,3,none⟩ (.slice t3A n3 t3c)).setCell ⟨w.heap.size+1,4,none⟩ (.slice t4A n4 t4c)).output=wr.output/\wr.heap.size<=(((((wr.setCell ⟨w.heap.size+1,0,none⟩ (.int .i64 i)).setCell ⟨w.heap.size+1,1,none⟩ (.slice t1A l t1c)).setCell ⟨w.heap.size+1,2,none⟩ (.slice gA gn gc2)).setCell ⟨w.heap.size+1,3,none⟩ (.slice t3A n3 t3c)).setCell ⟨w.heap.size+1,4,none⟩ (.slice t4A n4 t4c)).heap.size):=⟨rfl,rfl,rfl,by simp⟩
           have KI:=Hd.mk hI;have KR2:=Hd.mk hR;have KS3:=Hd.mk s3
           clear hI hR s1 s2 s3
           go_wp2
           clear KO HLt HP3 HP4 HD HG HGi Hgiv HC KW KX KR KF B1 B2 B3 B4 B6 e0 e1 e2 e3 e4 H1 H3 H4 KJ HW0 Hll H3l H4l
           go_region
           clear x0 x1 x2 x3 x4 y0 y1 y2 y3 y4 z0 z1 z2 z3 z4 z5 k0 k1 k2 k3 k4 k5
           have hord:=KI.out.ord
           try simp only[]at hord
           have hBW:Below w.heap.size w W0:=by
            rw[<-HWW.out]
            exact(B5.out.alloc (by omega) _).alloc (by simp;omega) _
           have hBr:Below w.heap.size w wr:=⟨KI.out.left.os.trans hBW.os,KI.out.left.tape.trans hBW.tape,KI.out.left.output.trans hBW.output,Nat.le_trans hBW.size KI.out.left.size,fun j hj=>(KI.out.left.block j (Nat.lt_of_lt_of_le hj hBW.size) (by simp only[];omega)).trans (hBW.block j hj)⟩
           have hBF:=((((hBr.setCell (p:=⟨w.heap.size+1,0,none⟩) (by show w.heap.size<=w.heap.size+1;omega) (.int .i64 i)).setCell (p:=⟨w.heap.size+1,1,none⟩) (by show w.heap.size<=w.heap.size+1;omega) (.slice t1A l t1c)).setCell (p:=⟨w.heap.size+1,2,none⟩) (by show w.heap.size<=w.heap.size+1;omega) (.slice gA gn gc2)).setCell (p:=⟨w.heap.size+1,3,none⟩) (by show w.heap.size<=w.heap.size+1;omega) (.slice t3A n3 t3c)).setCell (p:=⟨w.heap.size+1,4,none⟩) (by show w.heap.size<=w.heap.size+1;omega) (.slice t4A n4 t4c)
           have KBF:=Hd.mk hBF;have KOr:=Hd.mk hord
           clear hBW hBr hBF hord
           generalize (((((wr.setCell ⟨w.heap.size+1,0,none⟩ (.int .i64 i)).setCell ⟨w.heap.size+1,1,none⟩ (.slice t1A l t1c)).setCell ⟨w.heap.size+1,2,none⟩ (.slice gA gn gc2)).setCell ⟨w.heap.size+1,3,none⟩ (.slice t3A n3 t3c)).setCell ⟨w.heap.size+1,4,none⟩ (.slice t4A n4 t4c))=WF at KN KM KBF KQ ⊢
           go_wp2
           refine bodyPost_ret (v:=.tuple #[.agg #[.int .i64 i,.slice t1A l t1c,.slice gA gn gc2,.slice t3A n3 t3c,.slice t4A n4 t4c],.slice (some ⟨w2.heap.size,0,none⟩) n n,.int .i64 0]) (NW rfl rfl (run_loadVar_row _ _ 26 26 _ (0,0) _ KN.out Tryz.underlying26 rfl (by kernel_rfl)) rfl rfl) rfl ?_
           obtain⟨ho1,ho2,ho3,ho4,ho5,ho6,ho7,ho8,ho9⟩:=KOr.out
           have eT:=KT.out;have eA:=KA.out
           have eu1:=Bv (fun g:Int×Int=>(kB told g.1,g.2)) lat
           have eu3:=Bv (kB told) p3
           have eu4:=Bv (kB told) p4
           rw[KZ1.out]at eu1
           rw[KZ3.out]at eu3
           rw[KZ4.out]at eu4
           have hc1:=KI.out.c1;have hc3:=KI.out.c3;have hc4:=KI.out.c4
           rw[eu1]at hc1;rw[eu3]at hc3;rw[eu4]at hc4
           subst eT;subst eA
           have hWT:WF.drew.heap[w2.heap.size]?=wr.heap[w2.heap.size]?:=KM.out _ (by omega)
           have hgr:wr.grownBy WF.drew (some (w.heap.size+1)):=⟨KQ.out.1,KQ.out.2.1,KQ.out.2.2.1,KQ.out.2.2.2,fun j hj hne=>KM.out j (fun e=>hne (by rw[e]))⟩
           refine⟨t1A,t1c,t3A,t3c,t4A,t4c,.slice gA gn gc2,w2.heap.size,w1.heap.size+4,m1,m2,w2.heap.size+2,rfl,KBF.out.trans ⟨rfl,rfl,rfl,Nat.le_refl _,fun _ _=>rfl⟩,by omega,ho4,ho5,ho6,by omega,Cl.moved hc1 (fun b h1 h2=>KM.out b (by omega)) (Nat.le_refl _),Cl.moved hc3 (fun b h1 h2=>KM.out b (by omega)) (Nat.le_refl _),Cl.moved hc4 (fun b h1 h2=>KM.out b (by omega)) (Nat.le_refl _),KI.out.row.kept hWT,⟨_,hown.out.kept hgr (.inr (fun e=>?_))⟩,HVA.out⟩
           have:=HVA.out _ e
           try simp only[]at this
           omega
end
end Go.Proofs.YtfjpfjnepdhnaaaGreat

