/- Strings (for a seat that has chapter 8 too). -/
import Derived.Test.YtejmmkjpncpedaaGreatDoorStrB
